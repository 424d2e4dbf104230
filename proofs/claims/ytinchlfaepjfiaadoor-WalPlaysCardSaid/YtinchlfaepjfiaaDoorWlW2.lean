/-
  Walks, printed by a program of mine.
  Conditions: none.
-/
import Derived.Test.YtinchlfaepjfiaaDoorWlW1
import Derived.Test.YtinchlfaepjfiaaDoorChecked
import Derived.KernelRfl
import Derived.Test.YtinchlfaepjfiaaDoorSh
namespace Go.Proofs.YtinchlfaepjfiaaDoor
open Go.S
set_option linter.unusedVariables false
set_option linter.unusedSimpArgs false
set_option maxRecDepth 100000 in
set_option maxHeartbeats 8000000 in
theorem w82_quirref_Fold (a0 : (List UInt8)) (w : World) (r : Int) (h : m82_quirref_Fold a0 = some r) : Does Tryd.prog 82 [st a0] w fun u m => u = .int .u32 r ∧ m = [] := by
  rw [m82_quirref_Fold] at h
  refine body (n := 40) Tryd.func82 rfl rfl rfl (Cls.refl w) ?_
  refine W.seq (W.region (L.y rfl (Y.assign rfl) ?_))
  refine L.nil (E.thenN (W.seq (W.region (L.y rfl (Y.move rfl) ?_))))
  refine L.y rfl (Y.lenS Tryd.underlying9 rfl) ?_
  refine L.y rfl (Y.conv Tryd.underlying3 Tryd.underlying95 rfl) ?_
  refine L.y rfl (Y.assign rfl) ?_
  refine L.y rfl (Y.assign rfl) ?_
  refine L.nil (E.thenN (W.seqJ (fun gs D => ∃ (gx1 : Int) (gx2 : Int), gs = [(3, .int .u64 gx1), (4, .int .u64 gx2)] ∧ D = Cls w [] [] ∧ m82_quirref_Fold_K1 gx1 gx2 = some r) ?_ ?_))
  ·
   refine W.seq (W.region (L.y rfl (Y.move rfl) ?_))
   refine L.y rfl (Y.lenS Tryd.underlying9 rfl) ?_
   refine L.y rfl (Y.move rfl) ?_
   refine L.nil (E.thenN (W.block (W.loopJ (fun m gs D => ∃ (gx3 : Int) (gx4 : Int) (gx5 : Int), gs = [(0, st a0), (3, .int .u64 gx3), (4, .int .u64 gx4), (10, .int .i64 (a0.length : Int)), (11, .int .i64 gx5)] ∧ D = Cls w [] [] ∧ m82_quirref_Fold_L1 a0 m gx3 gx4 gx5 = some r) ⟨1, IntKind.wrap .u64 (a0.length : Int), 0, rfl, rfl, h⟩ ⟨rfl, rfl, rfl, rfl, rfl, trivial⟩ (fun _ hw => hw) ?_)))
   rintro m _ _ ⟨gx3, gx4, gx5, rfl, rfl, h⟩
   rcases m with _ | m
   · rw [m82_quirref_Fold_L1] at h; cases h
   rw [m82_quirref_Fold_L1] at h
   generalize hg1 : m82_quirref_Fold_L1 a0 m = go1 at h
   rw [m82_quirref_Fold_L1B] at h
   refine W.seq (W.region (L.ite h rfl (Y.lss rfl rfl) (fun c3 h => ?_) (fun c3 h => ?_)))
   ·
    refine L.nil (E.thenN (W.seq (W.condT rfl ?_)))
    refine W.skip (E.thenN (W.seq (W.block (W.seq (W.region (L.y rfl (Y.move rfl) ?_))))))
    refine L.y rfl (Y.assign rfl) ?_
    refine L.nil (E.thenN (W.seq (W.region (L.y rfl (Y.move rfl) ?_))))
    refine L.y rfl (Y.move rfl) ?_
    refine L.y rfl (Y.move rfl) ?_
    refine L.m (V := fun x4 => .int .u8 x4) h rfl (Y.indexSM Tryd.underlying9 rfl rfl) (fun x4 ex4 h => ?_)
    refine L.y rfl (Y.conv Tryd.underlying5 Tryd.underlying95 rfl) ?_
    refine L.y rfl (Y.addW rfl rfl) ?_
    refine L.y rfl (Y.assign rfl) ?_
    refine L.nil (E.thenN (W.region (L.y rfl (Y.move rfl) ?_)))
    refine L.y rfl (Y.move rfl) ?_
    refine L.y rfl (Y.move rfl) ?_
    refine L.m (V := fun x5 => .int .u8 x5) h rfl (Y.indexSM Tryd.underlying9 rfl rfl) (fun x5 ex5 h => ?_)
    refine L.y rfl (Y.conv Tryd.underlying5 Tryd.underlying95 rfl) ?_
    refine L.y rfl (Y.move rfl) ?_
    refine L.y rfl (Y.lenS Tryd.underlying9 rfl) ?_
    refine L.y rfl (Y.move rfl) ?_
    refine L.m (V := fun x6 => .int .i64 x6) h rfl (Y.subM rfl rfl) (fun x6 ex6 h => ?_)
    refine L.y rfl (Y.conv Tryd.underlying3 Tryd.underlying95 rfl) ?_
    refine L.y rfl (Y.mulW rfl rfl) ?_
    refine L.y rfl (Y.addW rfl rfl) ?_
    refine L.y rfl (Y.assign rfl) ?_
    refine L.nil (E.blockN (E.thenN (W.region (L.m (V := fun x7 => .int .i64 x7) h rfl (Y.addM rfl rfl) (fun x7 ex7 h => ?_)))))
    refine L.y rfl (Y.move rfl) ?_
    exact L.nil (E.againJ ⟨IntKind.wrap .u64 (gx3 + (IntKind.wrap .u64 x4)), IntKind.wrap .u64 (gx4 + (IntKind.wrap .u64 ((IntKind.wrap .u64 x5) * (IntKind.wrap .u64 x6)))), x7, rfl, rfl, by rw [hg1]; exact h⟩ (Nat.lt_succ_self _) ⟨rfl, rfl, rfl, rfl, rfl, trivial⟩ (fun _ hw => hw))
   ·
    refine L.nil (E.thenN (W.seq (W.condF rfl ?_)))
    exact W.exit (E.thenX (E.KLX (E.blockX (E.joinJ ⟨gx3, gx4, rfl, rfl, h⟩ ⟨rfl, rfl, trivial⟩ (fun _ hw => hw)))))
  ·
   rintro _ _ ⟨gx1, gx2, rfl, rfl, h⟩
   rw [m82_quirref_Fold_K1] at h
   refine W.seq (W.region (L.y rfl (Y.move rfl) ?_))
   refine L.m (V := fun x1 => .int .u64 x1) h rfl (Y.remM rfl rfl) (fun x1 ex1 h => ?_)
   refine L.y rfl (Y.mulW rfl rfl) ?_
   refine L.y rfl (Y.move rfl) ?_
   refine L.m (V := fun x2 => .int .u64 x2) h rfl (Y.remM rfl rfl) (fun x2 ex2 h => ?_)
   refine L.y rfl (Y.addW rfl rfl) ?_
   refine L.y rfl (Y.conv Tryd.underlying95 Tryd.underlying102 rfl) ?_
   refine L.y rfl (Y.assign rfl) ?_
   refine L.nil (E.thenN (W.ret (E.ret1 rfl rfl (fun w1 hw => ?_))))
   obtain rfl := Option.some.inj h
   exact ⟨_, _, rfl, ⟨rfl, rfl⟩, hw⟩
set_option maxRecDepth 100000 in
set_option maxHeartbeats 8000000 in
theorem w64_quirref_FoldPut (a0 : (List UInt8)) (w : World) (r : ((List UInt8) × Int)) (h : m64_quirref_FoldPut a0 = some r) : Does Tryd.prog 64 [st a0] w fun u m => u = .tuple #[st r.1, .int .i64 r.2] ∧ m = [] := by
  rw [m64_quirref_FoldPut] at h
  refine body (n := 28) Tryd.func64 rfl rfl rfl (Cls.refl w) ?_
  refine W.seq (W.region (L.y rfl (Y.assign rfl) ?_))
  refine L.y rfl (Y.assign rfl) ?_
  refine L.nil (E.thenN (W.seqJ (fun gs D => gs = [(0, st a0)] ∧ D = Cls w [] [] ∧ m64_quirref_FoldPut_K1 a0 = some r) ?_ ?_))
  ·
   refine W.seq (W.region (L.y rfl (Y.move rfl) ?_))
   refine L.y rfl (Y.lenS Tryd.underlying9 rfl) ?_
   refine L.ite h rfl (Y.gtr rfl rfl) (fun c11 h => ?_) (fun c11 h => ?_)
   ·
    refine L.nil (E.thenN (W.condT rfl ?_))
    refine W.seq (W.region (L.y rfl (Y.assign rfl) ?_))
    refine L.y rfl (Y.assign rfl) ?_
    refine L.nil (E.thenN (W.ret (E.KSR (E.ret2 rfl rfl rfl (fun w1 hw => ?_)))))
    obtain rfl := Option.some.inj h
    exact ⟨_, _, rfl, ⟨rfl, rfl⟩, hw⟩
   ·
    refine L.nil (E.thenN (W.condF rfl ?_))
    exact W.skip (E.joinJ ⟨rfl, rfl, h⟩ ⟨rfl, trivial⟩ (fun _ hw => hw))
  ·
   rintro _ _ ⟨rfl, rfl, h⟩
   rw [m64_quirref_FoldPut_K1] at h
   refine W.seq (W.region (L.y rfl (Y.move rfl) ?_))
   obtain ⟨x1, e2, h⟩ := bind1S h
   refine L.y rfl (Y.does en82 rfl (fun w' hw => (w82_quirref_Fold a0 w' _ e2).mono (fun _ _ h => h.1))) ?_
   refine L.y rfl (Y.assign rfl) ?_
   refine L.nil (E.thenN (W.seq (W.region (L.y rfl (Y.move rfl) ?_))))
   refine L.y rfl (Y.move rfl) ?_
   refine L.m (V := fun x3 => .int .u32 x3) h rfl (Y.quoM rfl rfl) (fun x3 ex3 h => ?_)
   refine L.y rfl (Y.conv Tryd.underlying102 Tryd.underlying5 rfl) ?_
   refine L.y rfl (Y.move rfl) ?_
   refine L.m (V := fun x4 => .int .u32 x4) h rfl (Y.quoM rfl rfl) (fun x4 ex4 h => ?_)
   refine L.m (V := fun x5 => .int .u32 x5) h rfl (Y.remM rfl rfl) (fun x5 ex5 h => ?_)
   refine L.y rfl (Y.conv Tryd.underlying102 Tryd.underlying5 rfl) ?_
   refine L.y rfl (Y.move rfl) ?_
   refine L.m (V := fun x6 => .int .u32 x6) h rfl (Y.quoM rfl rfl) (fun x6 ex6 h => ?_)
   refine L.m (V := fun x7 => .int .u32 x7) h rfl (Y.remM rfl rfl) (fun x7 ex7 h => ?_)
   refine L.y rfl (Y.conv Tryd.underlying102 Tryd.underlying5 rfl) ?_
   refine L.y rfl (Y.move rfl) ?_
   refine L.m (V := fun x8 => .int .u32 x8) h rfl (Y.remM rfl rfl) (fun x8 ex8 h => ?_)
   refine L.y rfl (Y.conv Tryd.underlying102 Tryd.underlying5 rfl) ?_
   refine L.lit (xs := [.tmp 13, .tmp 17, .tmp 21, .tmp 24]) rfl Tryd.underlying82 eL5 rfl rfl rfl rfl (by simp [Value.cells, st]) ?_
   intro b9
   refine L.y rfl (Y.convBytes (l := [IntKind.wrap .u8 x3, IntKind.wrap .u8 x5, IntKind.wrap .u8 x7, IntKind.wrap .u8 x8]) Tryd.underlying82 Tryd.underlying5 Tryd.underlying9 rfl (fun w hw => As.at_ (hw.get (i := 0) rfl))) ?_
   refine L.m (V := fun s10 => st s10) h rfl (Y.catM rfl rfl) (fun s10 es10 h => ?_)
   refine L.y rfl (Y.assign rfl) ?_
   refine L.y rfl (Y.assign rfl) ?_
   refine L.nil (E.thenN (W.ret (E.ret2 rfl rfl rfl (fun w1 hw => ?_))))
   obtain rfl := Option.some.inj h
   exact ⟨_, _, rfl, ⟨rfl, rfl⟩, hw.sel [] (by decide) rfl⟩
set_option maxRecDepth 100000 in
set_option maxHeartbeats 8000000 in
theorem w57_quirref_anchorSector (a0 : Int) (w : World) (r : (List UInt8)) (h : m57_quirref_anchorSector a0 = some r) : Does Tryd.prog 57 [.int .i64 a0] w fun u m => u = st r ∧ m = [] := by
  rw [m57_quirref_anchorSector] at h
  refine body (n := 18) Tryd.func57 rfl rfl rfl (Cls.refl w) ?_
  refine W.seq (W.region (L.y rfl (Y.assign rfl) ?_))
  refine L.nil (E.thenN (W.seq (W.region (L.y rfl (Y.move rfl) ?_))))
  obtain ⟨s1, e2, h⟩ := bind1S h
  refine L.y rfl (Y.does en79 rfl (fun w' hw => (w79_quirref_Int a0 w' _ e2).mono (fun _ _ h => h.1))) ?_
  obtain ⟨s3, x4, e5, h⟩ := bind2S h
  refine L.y rfl (Y.does en64 rfl (fun w' hw => (w64_quirref_FoldPut s1 w' _ e5).mono (fun _ _ h => h.1))) ?_
  refine L.y rfl (Y.move rfl) ?_
  refine L.y rfl (Y.extract rfl rfl) ?_
  refine L.y rfl (Y.extract rfl rfl) ?_
  refine L.y rfl (Y.assign rfl) ?_
  refine L.y rfl (Y.assign rfl) ?_
  refine L.nil (E.thenN (W.seq (W.region (L.y rfl (Y.move rfl) ?_))))
  refine L.m (V := fun s6 => st s6) h rfl (Y.catM rfl rfl) (fun s6 es6 h => ?_)
  refine L.y rfl (Y.move rfl) ?_
  refine L.y rfl (Y.lenS Tryd.underlying9 rfl) ?_
  refine L.m (V := fun x7 => .int .i64 x7) h rfl (Y.subM rfl rfl) (fun x7 ex7 h => ?_)
  obtain ⟨s8, e9, h⟩ := bind1S h
  refine L.y rfl (Y.does en23 rfl (fun w' hw => (w23_quirref_blank x7 w' _ e9).mono (fun _ _ h => h.1))) ?_
  refine L.m (V := fun s10 => st s10) h rfl (Y.catM rfl rfl) (fun s10 es10 h => ?_)
  refine L.y rfl (Y.assign rfl) ?_
  refine L.nil (E.thenN (W.ret (E.ret1 rfl rfl (fun w1 hw => ?_))))
  obtain rfl := Option.some.inj h
  exact ⟨_, _, rfl, ⟨rfl, rfl⟩, hw⟩
set_option maxRecDepth 100000 in
set_option maxHeartbeats 8000000 in
theorem w29_quirref_anchored (a0 : (List UInt8)) (w : World) (r : Int) (h : m29_quirref_anchored a0 = some r) : Does Tryd.prog 29 [st a0] w fun u m => u = .int .i64 r ∧ m = [] := by
  rw [m29_quirref_anchored] at h
  refine body (n := 33) Tryd.func29 rfl rfl rfl (Cls.refl w) ?_
  refine W.seq (W.region (L.y rfl (Y.assign rfl) ?_))
  refine L.nil (E.thenN (W.seqJ (fun gs D => gs = [(0, st a0)] ∧ D = Cls w [] [] ∧ m29_quirref_anchored_K1 a0 = some r) ?_ ?_))
  ·
   refine W.seq (W.region (L.y rfl (Y.move rfl) ?_))
   obtain ⟨s12, e13, h⟩ := bind1S h
   refine L.y rfl (Y.does en23 rfl (fun w' hw => (w23_quirref_blank 64 w' _ e13).mono (fun _ _ h => h.1))) ?_
   refine L.ite h rfl (Y.eqlS rfl rfl) (fun c14 h => ?_) (fun c14 h => ?_)
   ·
    refine L.nil (E.thenN (W.condT rfl ?_))
    refine W.seq (W.region (L.y rfl (Y.assign rfl) ?_))
    refine L.nil (E.thenN (W.ret (E.KSR (E.ret1 rfl rfl (fun w1 hw => ?_)))))
    obtain rfl := Option.some.inj h
    exact ⟨_, _, rfl, ⟨rfl, rfl⟩, hw⟩
   ·
    refine L.nil (E.thenN (W.condF rfl ?_))
    exact W.skip (E.joinJ ⟨rfl, rfl, h⟩ ⟨rfl, trivial⟩ (fun _ hw => hw))
  ·
   rintro _ _ ⟨rfl, rfl, h⟩
   rw [m29_quirref_anchored_K1] at h
   refine W.seq (W.region (L.y rfl (Y.move rfl) ?_))
   refine L.m (V := fun s1 => st s1) h rfl (Y.sliceSL Tryd.underlying9 rfl rfl) (fun s1 es1 h => ?_)
   obtain ⟨x2, x3, x4, e5, h⟩ := bind3S h
   refine L.y rfl (Y.does en56 rfl (fun w' hw => (w56_quirref_GetInt s1 w' _ e5).mono (fun _ _ h => h.1))) ?_
   refine L.y rfl (Y.move rfl) ?_
   refine L.y rfl (Y.extract rfl rfl) ?_
   refine L.y rfl (Y.extract rfl rfl) ?_
   refine L.y rfl (Y.extract rfl rfl) ?_
   refine L.y rfl (Y.assign rfl) ?_
   refine L.y rfl (Y.assign rfl) ?_
   refine L.y rfl (Y.assign rfl) ?_
   refine L.nil (E.thenN (W.seq (W.seq (W.region (L.cutJ 6 (fun gs D => ∃ (gb1 : Bool), gs = [(0, st a0), (3, .int .i64 x2), (21, .bool gb1)] ∧ D = Cls w [] [] ∧ m29_quirref_anchored_K2 x2 a0 gb1 = some r) ?_ ?_)))))
   ·
    refine L.y rfl (Y.move rfl) ?_
    refine L.ite h rfl (Y.eql rfl rfl) (fun c10 h => ?_) (fun c10 h => ?_)
    ·
     refine L.y rfl (Y.move rfl) ?_
     refine L.take rfl (L.y rfl (Y.move rfl) ?_)
     refine L.take rfl (L.ite h rfl (Y.geq rfl rfl) (fun c11 h => ?_) (fun c11 h => ?_))
     ·
      refine L.y rfl (Y.pickT rfl rfl) ?_
      exact L.nil (E.joinJ ⟨true, rfl, rfl, h⟩ ⟨rfl, rfl, rfl, trivial⟩ (fun _ hw => hw))
     ·
      refine L.y rfl (Y.pickT rfl rfl) ?_
      exact L.nil (E.joinJ ⟨false, rfl, rfl, h⟩ ⟨rfl, rfl, rfl, trivial⟩ (fun _ hw => hw))
    ·
     refine L.y rfl (Y.move rfl) ?_
     refine L.pass rfl rfl (by nofun) ?_
     refine L.pass rfl rfl (by nofun) ?_
     refine L.y rfl (Y.pickF rfl rfl) ?_
     exact L.nil (E.joinJ ⟨false, rfl, rfl, h⟩ ⟨rfl, rfl, rfl, trivial⟩ (fun _ hw => hw))
   ·
    rintro _ _ ⟨gb1, rfl, rfl, h⟩
    rw [m29_quirref_anchored_K2] at h
    rcases gb1 with _ | _
    ·
     replace h := iteF h
     refine L.y rfl (Y.move rfl) ?_
     refine L.pass rfl rfl (by nofun) ?_
     refine L.pass rfl rfl (by nofun) ?_
     refine L.y rfl (Y.pickF rfl rfl) ?_
     refine L.y rfl (Y.move rfl) ?_
     refine L.pass rfl rfl (by nofun) ?_
     refine L.pass rfl rfl (by nofun) ?_
     refine L.pass rfl rfl (by nofun) ?_
     refine L.pass rfl rfl (by nofun) ?_
     refine L.y rfl (Y.pickF rfl rfl) ?_
     refine L.nil (E.thenN (W.condF rfl ?_))
     refine W.skip (E.thenN (W.seq (W.region (L.y rfl (Y.assign rfl) ?_))))
     refine L.nil (E.thenN (W.ret (E.ret1 rfl rfl (fun w1 hw => ?_))))
     obtain rfl := Option.some.inj h
     exact ⟨_, _, rfl, ⟨rfl, rfl⟩, hw⟩
    ·
     replace h := iteT h
     refine L.y rfl (Y.move rfl) ?_
     refine L.take rfl (L.y rfl (Y.move rfl) ?_)
     refine L.take rfl (L.ite h rfl (Y.leq rfl rfl) (fun c6 h => ?_) (fun c6 h => ?_))
     ·
      refine L.y rfl (Y.pickT rfl rfl) ?_
      refine L.y rfl (Y.move rfl) ?_
      refine L.take rfl (L.y rfl (Y.move rfl) ?_)
      refine L.take rfl ?_
      obtain ⟨s7, e8, h⟩ := bind1S h
      refine L.y rfl (Y.does en57 rfl (fun w' hw => (w57_quirref_anchorSector x2 w' _ e8).mono (fun _ _ h => h.1))) ?_
      refine L.take rfl (L.y rfl (Y.move rfl) ?_)
      refine L.take rfl (L.ite h rfl (Y.eqlS rfl rfl) (fun c9 h => ?_) (fun c9 h => ?_))
      ·
       refine L.y rfl (Y.pickT rfl rfl) ?_
       refine L.nil (E.thenN (W.condT rfl ?_))
       refine W.seq (W.region (L.y rfl (Y.move rfl) ?_))
       refine L.y rfl (Y.assign rfl) ?_
       refine L.nil (E.thenN (W.ret (E.thenR (E.ret1 rfl rfl (fun w1 hw => ?_)))))
       obtain rfl := Option.some.inj h
       exact ⟨_, _, rfl, ⟨rfl, rfl⟩, hw⟩
      ·
       refine L.y rfl (Y.pickT rfl rfl) ?_
       refine L.nil (E.thenN (W.condF rfl ?_))
       refine W.skip (E.thenN (W.seq (W.region (L.y rfl (Y.assign rfl) ?_))))
       refine L.nil (E.thenN (W.ret (E.ret1 rfl rfl (fun w1 hw => ?_))))
       obtain rfl := Option.some.inj h
       exact ⟨_, _, rfl, ⟨rfl, rfl⟩, hw⟩
     ·
      refine L.y rfl (Y.pickT rfl rfl) ?_
      refine L.y rfl (Y.move rfl) ?_
      refine L.pass rfl rfl (by nofun) ?_
      refine L.pass rfl rfl (by nofun) ?_
      refine L.pass rfl rfl (by nofun) ?_
      refine L.pass rfl rfl (by nofun) ?_
      refine L.y rfl (Y.pickF rfl rfl) ?_
      refine L.nil (E.thenN (W.condF rfl ?_))
      refine W.skip (E.thenN (W.seq (W.region (L.y rfl (Y.assign rfl) ?_))))
      refine L.nil (E.thenN (W.ret (E.ret1 rfl rfl (fun w1 hw => ?_))))
      obtain rfl := Option.some.inj h
      exact ⟨_, _, rfl, ⟨rfl, rfl⟩, hw⟩
set_option maxRecDepth 100000 in
set_option maxHeartbeats 8000000 in
theorem w59_quirref_headOf (a0 : Int) (a1 : Int) (a2 : Int) (w : World) (r : (List UInt8)) (h : m59_quirref_headOf a0 a1 a2 = some r) : Does Tryd.prog 59 [.int .u8 a0, .int .i64 a1, .int .i64 a2] w fun u m => u = st r ∧ m = [] := by
  rw [m59_quirref_headOf] at h
  refine body (n := 16) Tryd.func59 rfl rfl rfl (Cls.refl w) ?_
  refine W.seq (W.region (L.y rfl (Y.assign rfl) ?_))
  refine L.nil (E.thenN (W.seqJ (fun gs D => ∃ (gs1 : (List UInt8)), gs = [(6, st gs1)] ∧ D = Cls w [] [] ∧ m59_quirref_headOf_K1 gs1 = some r) ?_ ?_))
  ·
   refine W.drawn2 (k := 10) (stC [] [] (Cls w [] [])) rfl mixed (fun _ hw => hw.drew) (Sc.atD (fun _ hw => hw)) ?_
   refine V2.y (i := 0) (Nx2.of (Z := Cls w [] []) [] (by kernel_rfl) rfl (Zc.fin (fun _ hw => hw))) rfl rfl rfl (Y.move rfl) ?_
   refine V2.y (i := 3) (Nx2.of (Z := Cls w [] []) [] (by kernel_rfl) rfl (Zc.fin (fun _ hw => hw))) rfl rfl rfl (Y.move rfl) ?_
   refine V2.y (i := 6) (Nx2.of (Z := Cls w [] []) [] (by kernel_rfl) rfl (Zc.fin (fun _ hw => hw))) rfl rfl rfl (Y.move rfl) ?_
   refine V2.eff2 (i1 := 1) (i2 := 4) (by kernel_rfl) rfl rfl ?_ ?_
   ·
    refine L.litOne rfl Tryd.underlying82 eL5 rfl rfl ?_
    intro b1
    refine L.nil (E.toV2 (stC [] [] (Cls w [] [.sl (sv b1 1) 5 1 (([a0]).map (IK .u8))])) 1 (by kernel_rfl) (Sc.stayD (fun _ hw => hw.sel [] (by decide) rfl)) (Sc.atD (fun _ hw => hw)) ?_)
    refine V2.y (i := 2) (Nx2.of (Z := Cls w [] [.sl (sv b1 1) 5 1 (([a0]).map (IK .u8))]) [] (by kernel_rfl) rfl (Zc.fin (fun _ hw => hw))) rfl rfl rfl (Y.convBytes (l := [a0]) Tryd.underlying82 Tryd.underlying5 Tryd.underlying9 rfl (fun w hw => As.at_ (hw.get (i := 0) rfl))) ?_
    refine V2.eff (i := 4) (by kernel_rfl) rfl ?_
    obtain ⟨s2, e3, h⟩ := bind1S h
    refine L.y rfl (Y.does en79 rfl (fun w' hw => (w79_quirref_Int a1 w' _ e3).mono (fun _ _ h => h.1))) ?_
    refine L.nil (E.toV2 (stC [] [] (Cls w [] [.sl (sv b1 1) 5 1 (([a0]).map (IK .u8))])) 4 (by kernel_rfl) (Sc.stayD (fun _ hw => hw)) (Sc.atD (fun _ hw => hw)) ?_)
    obtain ⟨y4, e5, h⟩ := bind1S h
    refine V2.m (i := 5) (V' := fun s6 => st s6) h (Nx2.of (Z := Cls w [] [.sl (sv b1 1) 5 1 (([a0]).map (IK .u8))]) [] (by kernel_rfl) rfl (Zc.fin (fun _ hw => hw))) rfl rfl rfl (Y.catM rfl rfl) (fun s6 es6 h => ?_)
    refine V2.eff (i := 7) (by kernel_rfl) rfl ?_
    refine L.y rfl (Y.does en79 rfl (fun w' hw => (w79_quirref_Int a2 w' _ e5).mono (fun _ _ h => h.1))) ?_
    refine L.nil (E.toV2 (stC [] [] (Cls w [] [.sl (sv b1 1) 5 1 (([a0]).map (IK .u8))])) 7 (by kernel_rfl) (Sc.stayD (fun _ hw => hw)) (Sc.atD (fun _ hw => hw)) ?_)
    refine V2.m (i := 8) (V' := fun s7 => st s7) h (Nx2.of (Z := Cls w [] [.sl (sv b1 1) 5 1 (([a0]).map (IK .u8))]) [] (by kernel_rfl) rfl (Zc.fin (fun _ hw => hw))) rfl rfl rfl (Y.catM rfl rfl) (fun s7 es7 h => ?_)
    refine V2.y (i := 9) (Nx2.of (Z := Cls w [] [.sl (sv b1 1) 5 1 (([a0]).map (IK .u8))]) [] (by kernel_rfl) rfl (Zc.fin (fun _ hw => hw))) rfl rfl rfl (Y.assign rfl) ?_
    refine V2.done (by kernel_rfl) ?_
    exact E.joinJ ⟨s7, rfl, rfl, h⟩ ⟨rfl, trivial⟩ (fun _ hw => hw.sel [] (by decide) rfl)
   ·
    obtain ⟨s8, e9, h⟩ := bind1S h
    refine L.y rfl (Y.does en79 rfl (fun w' hw => (w79_quirref_Int a1 w' _ e9).mono (fun _ _ h => h.1))) ?_
    refine L.nil (E.toV2 (stC [] [] (Cls w [] [])) 4 (by kernel_rfl) (Sc.stayD (fun _ hw => hw)) (Sc.atD (fun _ hw => hw)) ?_)
    refine V2.eff2 (i1 := 1) (i2 := 7) (by kernel_rfl) rfl rfl ?_ ?_
    ·
     refine L.litOne rfl Tryd.underlying82 eL5 rfl rfl ?_
     intro b10
     refine L.nil (E.toV2 (stC [] [] (Cls w [] [.sl (sv b10 1) 5 1 (([a0]).map (IK .u8))])) 1 (by kernel_rfl) (Sc.stayD (fun _ hw => hw.sel [] (by decide) rfl)) (Sc.atD (fun _ hw => hw)) ?_)
     refine V2.y (i := 2) (Nx2.of (Z := Cls w [] [.sl (sv b10 1) 5 1 (([a0]).map (IK .u8))]) [] (by kernel_rfl) rfl (Zc.fin (fun _ hw => hw))) rfl rfl rfl (Y.convBytes (l := [a0]) Tryd.underlying82 Tryd.underlying5 Tryd.underlying9 rfl (fun w hw => As.at_ (hw.get (i := 0) rfl))) ?_
     obtain ⟨y11, e12, h⟩ := bind1S h
     refine V2.m (i := 5) (V' := fun s13 => st s13) h (Nx2.of (Z := Cls w [] [.sl (sv b10 1) 5 1 (([a0]).map (IK .u8))]) [] (by kernel_rfl) rfl (Zc.fin (fun _ hw => hw))) rfl rfl rfl (Y.catM rfl rfl) (fun s13 es13 h => ?_)
     refine V2.eff (i := 7) (by kernel_rfl) rfl ?_
     refine L.y rfl (Y.does en79 rfl (fun w' hw => (w79_quirref_Int a2 w' _ e12).mono (fun _ _ h => h.1))) ?_
     refine L.nil (E.toV2 (stC [] [] (Cls w [] [.sl (sv b10 1) 5 1 (([a0]).map (IK .u8))])) 7 (by kernel_rfl) (Sc.stayD (fun _ hw => hw)) (Sc.atD (fun _ hw => hw)) ?_)
     refine V2.m (i := 8) (V' := fun s14 => st s14) h (Nx2.of (Z := Cls w [] [.sl (sv b10 1) 5 1 (([a0]).map (IK .u8))]) [] (by kernel_rfl) rfl (Zc.fin (fun _ hw => hw))) rfl rfl rfl (Y.catM rfl rfl) (fun s14 es14 h => ?_)
     refine V2.y (i := 9) (Nx2.of (Z := Cls w [] [.sl (sv b10 1) 5 1 (([a0]).map (IK .u8))]) [] (by kernel_rfl) rfl (Zc.fin (fun _ hw => hw))) rfl rfl rfl (Y.assign rfl) ?_
     refine V2.done (by kernel_rfl) ?_
     exact E.joinJ ⟨s14, rfl, rfl, h⟩ ⟨rfl, trivial⟩ (fun _ hw => hw.sel [] (by decide) rfl)
    ·
     obtain ⟨s15, e16, h⟩ := bind1S h
     refine L.y rfl (Y.does en79 rfl (fun w' hw => (w79_quirref_Int a2 w' _ e16).mono (fun _ _ h => h.1))) ?_
     refine L.nil (E.toV2 (stC [] [] (Cls w [] [])) 7 (by kernel_rfl) (Sc.stayD (fun _ hw => hw)) (Sc.atD (fun _ hw => hw)) ?_)
     refine V2.eff (i := 1) (by kernel_rfl) rfl ?_
     refine L.litOne rfl Tryd.underlying82 eL5 rfl rfl ?_
     intro b17
     refine L.nil (E.toV2 (stC [] [] (Cls w [] [.sl (sv b17 1) 5 1 (([a0]).map (IK .u8))])) 1 (by kernel_rfl) (Sc.stayD (fun _ hw => hw.sel [] (by decide) rfl)) (Sc.atD (fun _ hw => hw)) ?_)
     refine V2.y (i := 2) (Nx2.of (Z := Cls w [] [.sl (sv b17 1) 5 1 (([a0]).map (IK .u8))]) [] (by kernel_rfl) rfl (Zc.fin (fun _ hw => hw))) rfl rfl rfl (Y.convBytes (l := [a0]) Tryd.underlying82 Tryd.underlying5 Tryd.underlying9 rfl (fun w hw => As.at_ (hw.get (i := 0) rfl))) ?_
     refine V2.m (i := 5) (V' := fun s18 => st s18) h (Nx2.of (Z := Cls w [] [.sl (sv b17 1) 5 1 (([a0]).map (IK .u8))]) [] (by kernel_rfl) rfl (Zc.fin (fun _ hw => hw))) rfl rfl rfl (Y.catM rfl rfl) (fun s18 es18 h => ?_)
     refine V2.m (i := 8) (V' := fun s19 => st s19) h (Nx2.of (Z := Cls w [] [.sl (sv b17 1) 5 1 (([a0]).map (IK .u8))]) [] (by kernel_rfl) rfl (Zc.fin (fun _ hw => hw))) rfl rfl rfl (Y.catM rfl rfl) (fun s19 es19 h => ?_)
     refine V2.y (i := 9) (Nx2.of (Z := Cls w [] [.sl (sv b17 1) 5 1 (([a0]).map (IK .u8))]) [] (by kernel_rfl) rfl (Zc.fin (fun _ hw => hw))) rfl rfl rfl (Y.assign rfl) ?_
     refine V2.done (by kernel_rfl) ?_
     exact E.joinJ ⟨s19, rfl, rfl, h⟩ ⟨rfl, trivial⟩ (fun _ hw => hw.sel [] (by decide) rfl)
  ·
   rintro _ _ ⟨gs1, rfl, rfl, h⟩
   rw [m59_quirref_headOf_K1] at h
   refine W.ret (E.ret1 rfl rfl (fun w1 hw => ?_))
   obtain rfl := Option.some.inj h
   exact ⟨_, _, rfl, ⟨rfl, rfl⟩, hw⟩
set_option maxRecDepth 100000 in
set_option maxHeartbeats 8000000 in
theorem w60_quirref_FoldGet (a0 : (List UInt8)) (w : World) (r : ((List UInt8) × Int)) (h : m60_quirref_FoldGet a0 = some r) : Does Tryd.prog 60 [st a0] w fun u m => u = .tuple #[st r.1, .int .i64 r.2] ∧ m = [] := by
  rw [m60_quirref_FoldGet] at h
  refine body (n := 31) Tryd.func60 rfl rfl rfl (Cls.refl w) ?_
  refine W.seq (W.region (L.y rfl (Y.assign rfl) ?_))
  refine L.y rfl (Y.assign rfl) ?_
  refine L.nil (E.thenN (W.seqJ (fun gs D => gs = [(0, st a0)] ∧ D = Cls w [] [] ∧ m60_quirref_FoldGet_K1 a0 = some r) ?_ ?_))
  ·
   refine W.block (W.seq (W.region (L.y rfl (Y.move rfl) ?_)))
   refine L.y rfl (Y.lenS Tryd.underlying9 rfl) ?_
   refine L.ite h rfl (Y.lss rfl rfl) (fun c9 h => ?_) (fun c9 h => ?_)
   ·
    refine L.y rfl (Y.assign rfl) ?_
    refine L.nil (E.thenN (W.condT rfl ?_))
    refine W.seq (W.region (L.y rfl (Y.assign rfl) ?_))
    refine L.y rfl (Y.assign rfl) ?_
    refine L.nil (E.thenN (W.ret (E.blockR (E.KSR (E.ret2 rfl rfl rfl (fun w1 hw => ?_))))))
    obtain rfl := Option.some.inj h
    exact ⟨_, _, rfl, ⟨rfl, rfl⟩, hw⟩
   ·
    refine L.y rfl (Y.assign rfl) ?_
    refine L.nil (E.thenN (W.condF rfl ?_))
    refine W.seq (W.region (L.y rfl (Y.move rfl) ?_))
    refine L.y rfl (Y.lenS Tryd.underlying9 rfl) ?_
    refine L.ite h rfl (Y.gtr rfl rfl) (fun c10 h => ?_) (fun c10 h => ?_)
    ·
     refine L.y rfl (Y.assign rfl) ?_
     refine L.nil (E.thenN (W.condT rfl ?_))
     refine W.seq (W.region (L.y rfl (Y.assign rfl) ?_))
     refine L.y rfl (Y.assign rfl) ?_
     refine L.nil (E.thenN (W.ret (E.blockR (E.KSR (E.ret2 rfl rfl rfl (fun w1 hw => ?_))))))
     obtain rfl := Option.some.inj h
     exact ⟨_, _, rfl, ⟨rfl, rfl⟩, hw⟩
    ·
     refine L.y rfl (Y.assign rfl) ?_
     refine L.nil (E.thenN (W.condF rfl ?_))
     exact W.skip (E.blockN (E.joinJ ⟨rfl, rfl, h⟩ ⟨rfl, trivial⟩ (fun _ hw => hw)))
  ·
   rintro _ _ ⟨rfl, rfl, h⟩
   rw [m60_quirref_FoldGet_K1] at h
   refine W.seq (W.seq (W.region (L.y rfl (Y.move rfl) ?_)))
   refine L.y rfl (Y.move rfl) ?_
   refine L.y rfl (Y.lenS Tryd.underlying9 rfl) ?_
   refine L.m (V := fun x1 => .int .i64 x1) h rfl (Y.subM rfl rfl) (fun x1 ex1 h => ?_)
   refine L.m (V := fun s2 => st s2) h rfl (Y.sliceSH Tryd.underlying9 rfl rfl) (fun s2 es2 h => ?_)
   obtain ⟨s3, x4, e5, h⟩ := bind2S h
   refine L.y rfl (Y.does en64 rfl (fun w' hw => (w64_quirref_FoldPut s2 w' _ e5).mono (fun _ _ h => h.1))) ?_
   refine L.y rfl (Y.move rfl) ?_
   refine L.y rfl (Y.extract rfl rfl) ?_
   refine L.y rfl (Y.extract rfl rfl) ?_
   refine L.y rfl (Y.assign rfl) ?_
   refine L.y rfl (Y.assign rfl) ?_
   refine L.nil (E.thenN (W.seq (W.region (L.y rfl (Y.move rfl) ?_))))
   refine L.y rfl (Y.move rfl) ?_
   refine L.ite h rfl (Y.neqS rfl rfl) (fun c6 h => ?_) (fun c6 h => ?_)
   ·
    refine L.nil (E.thenN (W.condT rfl ?_))
    refine W.seq (W.region (L.y rfl (Y.assign rfl) ?_))
    refine L.y rfl (Y.assign rfl) ?_
    refine L.nil (E.thenN (W.ret (E.thenR (E.ret2 rfl rfl rfl (fun w1 hw => ?_)))))
    obtain rfl := Option.some.inj h
    exact ⟨_, _, rfl, ⟨rfl, rfl⟩, hw⟩
   ·
    refine L.nil (E.thenN (W.condF rfl ?_))
    refine W.skip (E.thenN (W.seq (W.region (L.y rfl (Y.move rfl) ?_))))
    refine L.y rfl (Y.move rfl) ?_
    refine L.y rfl (Y.lenS Tryd.underlying9 rfl) ?_
    refine L.m (V := fun x7 => .int .i64 x7) h rfl (Y.subM rfl rfl) (fun x7 ex7 h => ?_)
    refine L.m (V := fun s8 => st s8) h rfl (Y.sliceSH Tryd.underlying9 rfl rfl) (fun s8 es8 h => ?_)
    refine L.y rfl (Y.assign rfl) ?_
    refine L.y rfl (Y.assign rfl) ?_
    refine L.nil (E.thenN (W.ret (E.ret2 rfl rfl rfl (fun w1 hw => ?_))))
    obtain rfl := Option.some.inj h
    exact ⟨_, _, rfl, ⟨rfl, rfl⟩, hw⟩
set_option maxRecDepth 100000 in
set_option maxHeartbeats 8000000 in
theorem w30_quirref_recordAt (a0 : (List (List UInt8))) (a1 : Int) (u0 : Value) (w : World) (r : (Int × (List UInt8) × Int)) (h : m30_quirref_recordAt a0 a1 = some r) (hA0 : At w u0 1 (a0.map SR)) : Does Tryd.prog 30 [u0, .int .i64 a1] w fun u m => u = .tuple #[.int .i64 r.1, st r.2.1, .int .i64 r.2.2] ∧ m = [] := by
  rw [m30_quirref_recordAt] at h
  refine body (n := 133) Tryd.func30 rfl rfl rfl (Cls.refl w) ?_
  refine W.seq (W.region (L.y rfl (Y.assign rfl) ?_))
  refine L.y rfl (Y.assign rfl) ?_
  refine L.y rfl (Y.assign rfl) ?_
  refine L.nil (E.thenN (W.seqJ (fun gs D => gs = [(0, u0), (1, .int .i64 a1)] ∧ D = Cls w [] [] ∧ m30_quirref_recordAt_K1 a0 a1 = some r) ?_ ?_))
  ·
   refine W.seq (W.region (L.y rfl (Y.move rfl) ?_))
   refine L.y rfl (Y.lenM (g := SR) (l := a0) Tryd.underlying30 rfl (fun w' hw => hA0.cls0 hw)) ?_
   refine L.ite h rfl (Y.eql rfl rfl) (fun c48 h => ?_) (fun c48 h => ?_)
   ·
    refine L.y rfl (Y.move rfl) ?_
    refine L.pass rfl rfl (by nofun) ?_
    refine L.pass rfl rfl (by nofun) ?_
    refine L.pass rfl rfl (by nofun) ?_
    refine L.pass rfl rfl (by nofun) ?_
    refine L.pass rfl rfl (by nofun) ?_
    refine L.y rfl (Y.pickT rfl rfl) ?_
    refine L.nil (E.thenN (W.condT rfl ?_))
    refine W.seq (W.region (L.y rfl (Y.assign rfl) ?_))
    refine L.y rfl (Y.assign rfl) ?_
    refine L.y rfl (Y.assign rfl) ?_
    refine L.nil (E.thenN (W.ret (E.KSR (E.ret3 rfl rfl rfl rfl (fun w1 hw => ?_)))))
    obtain rfl := Option.some.inj h
    exact ⟨_, _, rfl, ⟨rfl, rfl⟩, hw⟩
   ·
    refine L.y rfl (Y.move rfl) ?_
    refine L.take rfl (L.y rfl (Y.move rfl) ?_)
    refine L.take rfl (L.m (V := fun _ => el u0 ((0 : Int).toNat * 1)) h rfl (Y.indexM (g := SR) (l := a0) Tryd.underlying30 sz9 rfl rfl (fun w' hw => hA0.cls0 hw)) (fun x49 ex49 h => ?_))
    refine L.take rfl (L.y rfl (Y.loadE1 (u := st x49) ag9 rfl (fun w' hw => hA0.cls0 hw) (idx_map ex49)) ?_)
    refine L.take rfl (L.m (V := fun x50 => .int .u8 x50) h rfl (Y.indexSM Tryd.underlying9 rfl rfl) (fun x50 ex50 h => ?_))
    refine L.take rfl (L.ite h rfl (Y.neq rfl rfl) (fun c51 h => ?_) (fun c51 h => ?_))
    ·
     refine L.y rfl (Y.pickF rfl rfl) ?_
     refine L.nil (E.thenN (W.condT rfl ?_))
     refine W.seq (W.region (L.y rfl (Y.assign rfl) ?_))
     refine L.y rfl (Y.assign rfl) ?_
     refine L.y rfl (Y.assign rfl) ?_
     refine L.nil (E.thenN (W.ret (E.KSR (E.ret3 rfl rfl rfl rfl (fun w1 hw => ?_)))))
     obtain rfl := Option.some.inj h
     exact ⟨_, _, rfl, ⟨rfl, rfl⟩, hw⟩
    ·
     refine L.y rfl (Y.pickF rfl rfl) ?_
     refine L.nil (E.thenN (W.condF rfl ?_))
     exact W.skip (E.joinJ ⟨rfl, rfl, h⟩ ⟨rfl, rfl, trivial⟩ (fun _ hw => hw))
  ·
   rintro _ _ ⟨rfl, rfl, h⟩
   rw [m30_quirref_recordAt_K1] at h
   refine W.seq (W.region (L.y rfl (Y.move rfl) ?_))
   refine L.m (V := fun _ => el u0 ((0 : Int).toNat * 1)) h rfl (Y.indexM (g := SR) (l := a0) Tryd.underlying30 sz9 rfl rfl (fun w' hw => hA0.cls0 hw)) (fun x1 ex1 h => ?_)
   refine L.y rfl (Y.loadE1 (u := st x1) ag9 rfl (fun w' hw => hA0.cls0 hw) (idx_map ex1)) ?_
   refine L.m (V := fun s2 => st s2) h rfl (Y.sliceSL Tryd.underlying9 rfl rfl) (fun s2 es2 h => ?_)
   obtain ⟨x3, x4, x5, e6, h⟩ := bind3S h
   refine L.y rfl (Y.does en56 rfl (fun w' hw => (w56_quirref_GetInt s2 w' _ e6).mono (fun _ _ h => h.1))) ?_
   refine L.y rfl (Y.move rfl) ?_
   refine L.y rfl (Y.extract rfl rfl) ?_
   refine L.y rfl (Y.extract rfl rfl) ?_
   refine L.y rfl (Y.extract rfl rfl) ?_
   refine L.y rfl (Y.assign rfl) ?_
   refine L.y rfl (Y.assign rfl) ?_
   refine L.y rfl (Y.assign rfl) ?_
   refine L.nil (E.thenN (W.seq (W.region (L.y rfl (Y.move rfl) ?_))))
   refine L.m (V := fun _ => el u0 ((0 : Int).toNat * 1)) h rfl (Y.indexM (g := SR) (l := a0) Tryd.underlying30 sz9 rfl rfl (fun w' hw => hA0.cls0 hw)) (fun x7 ex7 h => ?_)
   refine L.y rfl (Y.loadE1 (u := st x7) ag9 rfl (fun w' hw => hA0.cls0 hw) (idx_map ex7)) ?_
   refine L.y rfl (Y.move rfl) ?_
   refine L.m (V := fun x8 => .int .i64 x8) h rfl (Y.addM rfl rfl) (fun x8 ex8 h => ?_)
   refine L.m (V := fun s9 => st s9) h rfl (Y.sliceSL Tryd.underlying9 rfl rfl) (fun s9 es9 h => ?_)
   obtain ⟨x10, x11, x12, e13, h⟩ := bind3S h
   refine L.y rfl (Y.does en56 rfl (fun w' hw => (w56_quirref_GetInt s9 w' _ e13).mono (fun _ _ h => h.1))) ?_
   refine L.y rfl (Y.move rfl) ?_
   refine L.y rfl (Y.extract rfl rfl) ?_
   refine L.y rfl (Y.extract rfl rfl) ?_
   refine L.y rfl (Y.extract rfl rfl) ?_
   refine L.y rfl (Y.assign rfl) ?_
   refine L.y rfl (Y.assign rfl) ?_
   refine L.y rfl (Y.assign rfl) ?_
   refine L.nil (E.thenN (W.seqJ (fun gs D => gs = [(0, u0), (1, .int .i64 a1), (4, .int .i64 x3), (7, .int .i64 x4), (10, .int .i64 x11)] ∧ D = Cls w [] [] ∧ m30_quirref_recordAt_K2 a0 x4 x11 x3 a1 = some r) ?_ ?_))
   ·
    refine W.seq (W.region (L.cutJ 6 (fun gs D => ∃ (gb5 : Bool), gs = [(0, u0), (1, .int .i64 a1), (4, .int .i64 x3), (7, .int .i64 x4), (9, .int .i64 x10), (10, .int .i64 x11), (52, .bool gb5)] ∧ D = Cls w [] [] ∧ m30_quirref_recordAt_K6 x10 a1 a0 x4 x11 x3 gb5 = some r) ?_ ?_))
    ·
     refine L.y rfl (Y.move rfl) ?_
     refine L.ite h rfl (Y.neq rfl rfl) (fun c46 h => ?_) (fun c46 h => ?_)
     ·
      refine L.y rfl (Y.move rfl) ?_
      refine L.pass rfl rfl (by nofun) ?_
      refine L.pass rfl rfl (by nofun) ?_
      refine L.y rfl (Y.pickT rfl rfl) ?_
      exact L.nil (E.joinJ ⟨true, rfl, rfl, h⟩ ⟨rfl, rfl, rfl, rfl, rfl, rfl, rfl, trivial⟩ (fun _ hw => hw))
     ·
      refine L.y rfl (Y.move rfl) ?_
      refine L.take rfl (L.y rfl (Y.move rfl) ?_)
      refine L.take rfl (L.ite h rfl (Y.neq rfl rfl) (fun c47 h => ?_) (fun c47 h => ?_))
      ·
       refine L.y rfl (Y.pickF rfl rfl) ?_
       exact L.nil (E.joinJ ⟨true, rfl, rfl, h⟩ ⟨rfl, rfl, rfl, rfl, rfl, rfl, rfl, trivial⟩ (fun _ hw => hw))
      ·
       refine L.y rfl (Y.pickF rfl rfl) ?_
       exact L.nil (E.joinJ ⟨false, rfl, rfl, h⟩ ⟨rfl, rfl, rfl, rfl, rfl, rfl, rfl, trivial⟩ (fun _ hw => hw))
    ·
     rintro _ _ ⟨gb5, rfl, rfl, h⟩
     rw [m30_quirref_recordAt_K6] at h
     rcases gb5 with _ | _
     ·
      replace h := iteF h
      refine L.y rfl (Y.move rfl) ?_
      refine L.take rfl (L.y rfl (Y.move rfl) ?_)
      refine L.take rfl (L.y rfl (Y.move rfl) ?_)
      refine L.take rfl (L.ite h rfl (Y.neq rfl rfl) (fun c45 h => ?_) (fun c45 h => ?_))
      ·
       refine L.y rfl (Y.pickF rfl rfl) ?_
       refine L.nil (E.thenN (W.condT rfl ?_))
       refine W.seq (W.region (L.y rfl (Y.assign rfl) ?_))
       refine L.y rfl (Y.assign rfl) ?_
       refine L.y rfl (Y.assign rfl) ?_
       refine L.nil (E.thenN (W.ret (E.KSR (E.ret3 rfl rfl rfl rfl (fun w1 hw => ?_)))))
       obtain rfl := Option.some.inj h
       exact ⟨_, _, rfl, ⟨rfl, rfl⟩, hw⟩
      ·
       refine L.y rfl (Y.pickF rfl rfl) ?_
       refine L.nil (E.thenN (W.condF rfl ?_))
       exact W.skip (E.joinJ ⟨rfl, rfl, h⟩ ⟨rfl, rfl, rfl, rfl, rfl, trivial⟩ (fun _ hw => hw))
     ·
      replace h := iteT h
      refine L.y rfl (Y.move rfl) ?_
      refine L.pass rfl rfl (by nofun) ?_
      refine L.pass rfl rfl (by nofun) ?_
      refine L.pass rfl rfl (by nofun) ?_
      refine L.y rfl (Y.pickT rfl rfl) ?_
      refine L.nil (E.thenN (W.condT rfl ?_))
      refine W.seq (W.region (L.y rfl (Y.assign rfl) ?_))
      refine L.y rfl (Y.assign rfl) ?_
      refine L.y rfl (Y.assign rfl) ?_
      refine L.nil (E.thenN (W.ret (E.KSR (E.ret3 rfl rfl rfl rfl (fun w1 hw => ?_)))))
      obtain rfl := Option.some.inj h
      exact ⟨_, _, rfl, ⟨rfl, rfl⟩, hw⟩
   ·
    rintro _ _ ⟨rfl, rfl, h⟩
    rw [m30_quirref_recordAt_K2] at h
    refine W.seq (W.region (L.y rfl (Y.move rfl) ?_))
    refine L.m (V := fun _ => el u0 ((0 : Int).toNat * 1)) h rfl (Y.indexM (g := SR) (l := a0) Tryd.underlying30 sz9 rfl rfl (fun w' hw => hA0.cls0 hw)) (fun x14 ex14 h => ?_)
    refine L.y rfl (Y.loadE1 (u := st x14) ag9 rfl (fun w' hw => hA0.cls0 hw) (idx_map ex14)) ?_
    refine L.y rfl (Y.move rfl) ?_
    refine L.m (V := fun x15 => .int .i64 x15) h rfl (Y.addM rfl rfl) (fun x15 ex15 h => ?_)
    refine L.y rfl (Y.move rfl) ?_
    refine L.m (V := fun x16 => .int .i64 x16) h rfl (Y.addM rfl rfl) (fun x16 ex16 h => ?_)
    refine L.m (V := fun s17 => st s17) h rfl (Y.sliceSL Tryd.underlying9 rfl rfl) (fun s17 es17 h => ?_)
    refine L.y rfl (Y.assign rfl) ?_
    refine L.nil (E.thenN (W.seq (W.region (L.y rfl (Y.move rfl) ?_))))
    obtain ⟨x18, x19, x20, e21, h⟩ := bind3S h
    refine L.y rfl (Y.does en58 rfl (fun w' hw => (w58_quirref_GetNat s17 w' _ e21).mono (fun _ _ h => h.1))) ?_
    refine L.y rfl (Y.move rfl) ?_
    refine L.y rfl (Y.extract rfl rfl) ?_
    refine L.y rfl (Y.extract rfl rfl) ?_
    refine L.y rfl (Y.extract rfl rfl) ?_
    refine L.y rfl (Y.assign rfl) ?_
    refine L.y rfl (Y.assign rfl) ?_
    refine L.y rfl (Y.assign rfl) ?_
    refine L.nil (E.thenN (W.seqJ (fun gs D => gs = [(0, u0), (1, .int .i64 a1), (4, .int .i64 x3), (12, st s17), (13, .int .u64 x18), (14, .int .i64 x19)] ∧ D = Cls w [] [] ∧ m30_quirref_recordAt_K3 x19 x18 x3 a1 a0 s17 = some r) ?_ ?_))
    ·
     refine W.seq (W.region (L.y rfl (Y.move rfl) ?_))
     refine L.ite h rfl (Y.neq rfl rfl) (fun c43 h => ?_) (fun c43 h => ?_)
     ·
      refine L.y rfl (Y.move rfl) ?_
      refine L.pass rfl rfl (by nofun) ?_
      refine L.pass rfl rfl (by nofun) ?_
      refine L.y rfl (Y.pickT rfl rfl) ?_
      refine L.nil (E.thenN (W.condT rfl ?_))
      refine W.seq (W.region (L.y rfl (Y.assign rfl) ?_))
      refine L.y rfl (Y.assign rfl) ?_
      refine L.y rfl (Y.assign rfl) ?_
      refine L.nil (E.thenN (W.ret (E.KSR (E.ret3 rfl rfl rfl rfl (fun w1 hw => ?_)))))
      obtain rfl := Option.some.inj h
      exact ⟨_, _, rfl, ⟨rfl, rfl⟩, hw⟩
     ·
      refine L.y rfl (Y.move rfl) ?_
      refine L.take rfl (L.y rfl (Y.move rfl) ?_)
      refine L.take rfl (L.ite h rfl (Y.gtr rfl rfl) (fun c44 h => ?_) (fun c44 h => ?_))
      ·
       refine L.y rfl (Y.pickF rfl rfl) ?_
       refine L.nil (E.thenN (W.condT rfl ?_))
       refine W.seq (W.region (L.y rfl (Y.assign rfl) ?_))
       refine L.y rfl (Y.assign rfl) ?_
       refine L.y rfl (Y.assign rfl) ?_
       refine L.nil (E.thenN (W.ret (E.KSR (E.ret3 rfl rfl rfl rfl (fun w1 hw => ?_)))))
       obtain rfl := Option.some.inj h
       exact ⟨_, _, rfl, ⟨rfl, rfl⟩, hw⟩
      ·
       refine L.y rfl (Y.pickF rfl rfl) ?_
       refine L.nil (E.thenN (W.condF rfl ?_))
       exact W.skip (E.joinJ ⟨rfl, rfl, h⟩ ⟨rfl, rfl, rfl, rfl, rfl, rfl, trivial⟩ (fun _ hw => hw))
    ·
     rintro _ _ ⟨rfl, rfl, h⟩
     rw [m30_quirref_recordAt_K3] at h
     refine W.seq (W.region (L.y rfl (Y.assign rfl) ?_))
     refine L.nil (E.thenN (W.seqJ (fun gs D => ∃ (gx1 : Int) (gs2 : (List UInt8)), gs = [(4, .int .i64 x3), (6, .int .i64 gx1), (12, st gs2), (13, .int .u64 x18), (14, .int .i64 x19)] ∧ D = Cls w [] [] ∧ m30_quirref_recordAt_K4 x19 x18 x3 gx1 gs2 = some r) ?_ ?_))
     ·
      refine W.block (W.loopJ (fun m gs D => ∃ (gx3 : Int) (gs4 : (List UInt8)), gs = [(0, u0), (1, .int .i64 a1), (4, .int .i64 x3), (6, .int .i64 gx3), (12, st gs4), (13, .int .u64 x18), (14, .int .i64 x19)] ∧ D = Cls w [] [] ∧ m30_quirref_recordAt_L1 x19 x18 x3 a1 a0 m gx3 gs4 = some r) ⟨1, s17, rfl, rfl, h⟩ ⟨rfl, rfl, rfl, rfl, rfl, rfl, rfl, trivial⟩ (fun _ hw => hw) ?_)
      rintro m _ _ ⟨gx3, gs4, rfl, rfl, h⟩
      rcases m with _ | m
      · rw [m30_quirref_recordAt_L1] at h; cases h
      rw [m30_quirref_recordAt_L1] at h
      generalize hg1 : m30_quirref_recordAt_L1 x19 x18 x3 a1 a0 m = go1 at h
      rw [m30_quirref_recordAt_L1B] at h
      refine W.seqJ (fun gs D => gs = [(0, u0), (1, .int .i64 a1), (4, .int .i64 x3), (6, .int .i64 gx3), (12, st gs4), (13, .int .u64 x18), (14, .int .i64 x19)] ∧ D = Cls w [] [] ∧ m30_quirref_recordAt_K5 x3 a1 gx3 a0 gs4 go1 = some r) ?_ ?_
      ·
       refine W.seq (W.region (L.y rfl (Y.move rfl) ?_))
       refine L.y rfl (Y.lenS Tryd.underlying9 rfl) ?_
       refine L.y rfl (Y.move rfl) ?_
       refine L.y rfl (Y.move rfl) ?_
       refine L.y rfl (Y.conv Tryd.underlying95 Tryd.underlying3 rfl) ?_
       refine L.m (V := fun x40 => .int .i64 x40) h rfl (Y.addM rfl rfl) (fun x40 ex40 h => ?_)
       refine L.m (V := fun x41 => .int .i64 x41) h rfl (Y.addM rfl rfl) (fun x41 ex41 h => ?_)
       refine L.ite h rfl (Y.lss rfl rfl) (fun c42 h => ?_) (fun c42 h => ?_)
       ·
        refine L.nil (E.thenN (W.condT rfl ?_))
        exact W.skip (E.joinJ ⟨rfl, rfl, h⟩ ⟨rfl, rfl, rfl, rfl, rfl, rfl, rfl, trivial⟩ (fun _ hw => hw))
       ·
        refine L.nil (E.thenN (W.condF rfl ?_))
        exact W.exit (E.KSX (E.KLX (E.blockX (E.joinJ ⟨gx3, gs4, rfl, rfl, h⟩ ⟨rfl, rfl, rfl, rfl, rfl, trivial⟩ (fun _ hw => hw)))))
      ·
       rintro _ _ ⟨rfl, rfl, h⟩
       rw [m30_quirref_recordAt_K5] at h
       refine W.block (W.seq (W.region (L.y rfl (Y.move rfl) ?_)))
       refine L.y rfl (Y.move rfl) ?_
       obtain ⟨s30, e31, h⟩ := bind1S h
       refine L.y rfl (Y.does en59 rfl (fun w' hw => (w59_quirref_headOf 2 x3 a1 w' _ e31).mono (fun _ _ h => h.1))) ?_
       refine L.y rfl (Y.assign rfl) ?_
       refine L.nil (E.thenN (W.seq (W.seq (W.region (L.y rfl (Y.move rfl) ?_)))))
       refine L.y rfl (Y.move rfl) ?_
       refine L.y rfl (Y.lenM (g := SR) (l := a0) Tryd.underlying30 rfl (fun w' hw => hA0.cls0 hw)) ?_
       refine L.ite h rfl (Y.eql rfl rfl) (fun c32 h => ?_) (fun c32 h => ?_)
       ·
        refine L.y rfl (Y.move rfl) ?_
        refine L.pass rfl rfl (by nofun) ?_
        refine L.pass rfl rfl (by nofun) ?_
        refine L.pass rfl rfl (by nofun) ?_
        refine L.pass rfl rfl (by nofun) ?_
        refine L.pass rfl rfl (by nofun) ?_
        refine L.pass rfl rfl (by nofun) ?_
        refine L.pass rfl rfl (by nofun) ?_
        refine L.pass rfl rfl (by nofun) ?_
        refine L.pass rfl rfl (by nofun) ?_
        refine L.y rfl (Y.pickT rfl rfl) ?_
        refine L.nil (E.thenN (W.condT rfl ?_))
        refine W.seq (W.region (L.y rfl (Y.assign rfl) ?_))
        refine L.y rfl (Y.assign rfl) ?_
        refine L.y rfl (Y.assign rfl) ?_
        refine L.nil (E.thenN (W.ret (E.thenR (E.blockR (E.KLR (E.blockR (E.KSR (E.ret3 rfl rfl rfl rfl (fun w1 hw => ?_)))))))))
        obtain rfl := Option.some.inj h
        exact ⟨_, _, rfl, ⟨rfl, rfl⟩, hw⟩
       ·
        refine L.y rfl (Y.move rfl) ?_
        refine L.take rfl (L.y rfl (Y.move rfl) ?_)
        refine L.take rfl (L.y rfl (Y.move rfl) ?_)
        refine L.take rfl (L.m (V := fun _ => el u0 (gx3.toNat * 1)) h rfl (Y.indexM (g := SR) (l := a0) Tryd.underlying30 sz9 rfl rfl (fun w' hw => hA0.cls0 hw)) (fun x33 ex33 h => ?_))
        refine L.take rfl (L.y rfl (Y.loadE1 (u := st x33) ag9 rfl (fun w' hw => hA0.cls0 hw) (idx_map ex33)) ?_)
        refine L.take rfl (L.y rfl (Y.move rfl) ?_)
        refine L.take rfl (L.y rfl (Y.lenS Tryd.underlying9 rfl) ?_)
        refine L.take rfl (L.m (V := fun s34 => st s34) h rfl (Y.sliceSH Tryd.underlying9 rfl rfl) (fun s34 es34 h => ?_))
        refine L.take rfl (L.y rfl (Y.move rfl) ?_)
        refine L.take rfl (L.ite h rfl (Y.neqS rfl rfl) (fun c35 h => ?_) (fun c35 h => ?_))
        ·
         refine L.y rfl (Y.pickF rfl rfl) ?_
         refine L.nil (E.thenN (W.condT rfl ?_))
         refine W.seq (W.region (L.y rfl (Y.assign rfl) ?_))
         refine L.y rfl (Y.assign rfl) ?_
         refine L.y rfl (Y.assign rfl) ?_
         refine L.nil (E.thenN (W.ret (E.thenR (E.blockR (E.KLR (E.blockR (E.KSR (E.ret3 rfl rfl rfl rfl (fun w1 hw => ?_)))))))))
         obtain rfl := Option.some.inj h
         exact ⟨_, _, rfl, ⟨rfl, rfl⟩, hw⟩
        ·
         refine L.y rfl (Y.pickF rfl rfl) ?_
         refine L.nil (E.thenN (W.condF rfl ?_))
         refine W.skip (E.thenN (W.seq (W.region (L.y rfl (Y.move rfl) ?_))))
         refine L.y rfl (Y.move rfl) ?_
         refine L.y rfl (Y.move rfl) ?_
         refine L.m (V := fun _ => el u0 (gx3.toNat * 1)) h rfl (Y.indexM (g := SR) (l := a0) Tryd.underlying30 sz9 rfl rfl (fun w' hw => hA0.cls0 hw)) (fun x36 ex36 h => ?_)
         refine L.y rfl (Y.loadE1 (u := st x36) ag9 rfl (fun w' hw => hA0.cls0 hw) (idx_map ex36)) ?_
         refine L.y rfl (Y.move rfl) ?_
         refine L.y rfl (Y.lenS Tryd.underlying9 rfl) ?_
         refine L.m (V := fun s37 => st s37) h rfl (Y.sliceSL Tryd.underlying9 rfl rfl) (fun s37 es37 h => ?_)
         refine L.m (V := fun s38 => st s38) h rfl (Y.catM rfl rfl) (fun s38 es38 h => ?_)
         refine L.y rfl (Y.assign rfl) ?_
         refine L.nil (E.thenN (W.region (L.y rfl (Y.move rfl) ?_)))
         refine L.m (V := fun x39 => .int .i64 x39) h rfl (Y.addM rfl rfl) (fun x39 ex39 h => ?_)
         refine L.y rfl (Y.assign rfl) ?_
         exact L.nil (E.blockN (E.againJ ⟨x39, s38, rfl, rfl, by rw [hg1]; exact h⟩ (Nat.lt_succ_self _) ⟨rfl, rfl, rfl, rfl, rfl, rfl, rfl, trivial⟩ (fun _ hw => hw)))
     ·
      rintro _ _ ⟨gx1, gs2, rfl, rfl, h⟩
      rw [m30_quirref_recordAt_K4] at h
      refine W.seq (W.region (L.y rfl (Y.move rfl) ?_))
      refine L.y rfl (Y.move rfl) ?_
      refine L.y rfl (Y.move rfl) ?_
      refine L.y rfl (Y.conv Tryd.underlying95 Tryd.underlying3 rfl) ?_
      refine L.m (V := fun x22 => .int .i64 x22) h rfl (Y.addM rfl rfl) (fun x22 ex22 h => ?_)
      refine L.m (V := fun x23 => .int .i64 x23) h rfl (Y.addM rfl rfl) (fun x23 ex23 h => ?_)
      refine L.m (V := fun s24 => st s24) h rfl (Y.sliceSH Tryd.underlying9 rfl rfl) (fun s24 es24 h => ?_)
      obtain ⟨s25, x26, e27, h⟩ := bind2S h
      refine L.y rfl (Y.does en60 rfl (fun w' hw => (w60_quirref_FoldGet s24 w' _ e27).mono (fun _ _ h => h.1))) ?_
      refine L.y rfl (Y.move rfl) ?_
      refine L.y rfl (Y.extract rfl rfl) ?_
      refine L.y rfl (Y.extract rfl rfl) ?_
      refine L.y rfl (Y.assign rfl) ?_
      refine L.y rfl (Y.assign rfl) ?_
      refine L.nil (E.thenN (W.seq (W.seq (W.region (L.y rfl (Y.move rfl) ?_)))))
      refine L.ite h rfl (Y.neq rfl rfl) (fun c28 h => ?_) (fun c28 h => ?_)
      ·
       refine L.nil (E.thenN (W.condT rfl ?_))
       refine W.seq (W.region (L.y rfl (Y.assign rfl) ?_))
       refine L.y rfl (Y.assign rfl) ?_
       refine L.y rfl (Y.assign rfl) ?_
       refine L.nil (E.thenN (W.ret (E.thenR (E.ret3 rfl rfl rfl rfl (fun w1 hw => ?_)))))
       obtain rfl := Option.some.inj h
       exact ⟨_, _, rfl, ⟨rfl, rfl⟩, hw⟩
      ·
       refine L.nil (E.thenN (W.condF rfl ?_))
       refine W.skip (E.thenN (W.seq (W.quietC mixed (by kernel_rfl) (fun _ hw => hw.drew) (fun hC => ?_))))
       refine U.y rfl (Y.move rfl) ?_
       refine U.y rfl (Y.move rfl) ?_
       refine U.y rfl (Y.move rfl) ?_
       refine U.m (V := fun s29 => st s29) h rfl (Y.sliceSL Tryd.underlying9 rfl rfl) (fun s29 es29 h => ?_)
       refine U.y rfl (Y.move rfl) ?_
       refine U.y rfl (Y.assign rfl) ?_
       refine U.y rfl (Y.assign rfl) ?_
       refine U.y rfl (Y.assign rfl) ?_
       refine U.nil (E.thenN (W.ret (E.ret3 rfl rfl rfl rfl (fun w1 hw => ?_))))
       obtain rfl := Option.some.inj h
       exact ⟨_, _, rfl, ⟨rfl, rfl⟩, hw⟩
set_option maxRecDepth 100000 in
set_option maxHeartbeats 8000000 in
theorem w36_quirref_Disk_Write (a0_Seen : (List (List UInt8))) (a0_Safe : (List (List UInt8))) (a0_late : (List Int)) (a0_texts : (List (List UInt8))) (a0_left : Int) (a1 : Int) (a2 : (List UInt8)) (pb0 : Nat) (p0_Seen : Value) (p0_Safe : Value) (p0_late : Value) (p0_texts : Value) (w : World) (r : ((List (List UInt8)) × (List Int) × (List (List UInt8)) × Int × Int)) (h : m36_quirref_Disk_Write a0_Seen a0_Safe a0_late a0_texts a0_left a1 a2 = some r) (F : List Nat) (hc0 : Cls w F [.obj pb0 [p0_Seen, p0_Safe, p0_late, p0_texts, .int .i64 a0_left] 48, .sl p0_Seen 9 1 (a0_Seen.map SR), .sl p0_Safe 9 1 (a0_Safe.map SR), .sl p0_late 3 1 (a0_late.map I), .sl p0_texts 9 1 (a0_texts.map SR)] w) : DoesF Tryd.prog 36 [pt pb0 0, .int .i64 a1, st a2] F w fun u m => ∃ y1 y2 y3, u = .int .i64 r.2.2.2.2 ∧ m = [.obj pb0 [y1, p0_Safe, y2, y3, .int .i64 r.2.2.2.1] 48, .sl y1 9 1 (r.1.map SR), .sl p0_Safe 9 1 (a0_Safe.map SR), .sl y2 3 1 (r.2.1.map I), .sl y3 9 1 (r.2.2.1.map SR)] := by
  rw [m36_quirref_Disk_Write] at h
  refine body (n := 78) Tryd.func36 rfl rfl rfl hc0 ?_
  refine W.seq (W.region (L.y rfl (Y.assign rfl) ?_))
  refine L.nil (E.thenN (W.seqJ (fun gs D => gs = [(0, pt pb0 0), (1, .int .i64 a1), (2, st a2)] ∧ D = Cls w F [.obj pb0 [p0_Seen, p0_Safe, p0_late, p0_texts, .int .i64 a0_left] 48, .sl p0_Seen 9 1 (a0_Seen.map SR), .sl p0_Safe 9 1 (a0_Safe.map SR), .sl p0_late 3 1 (a0_late.map I), .sl p0_texts 9 1 (a0_texts.map SR)] ∧ m36_quirref_Disk_Write_K1 a2 a0_Seen a0_late a0_texts a0_left a1 = some r) ?_ ?_))
  ·
   refine W.seq (W.region (L.y rfl (Y.move rfl) ?_))
   refine L.ite h rfl (Y.lss rfl rfl) (fun c53 h => ?_) (fun c53 h => ?_)
   ·
    refine L.y rfl (Y.move rfl) ?_
    refine L.pass rfl rfl (by nofun) ?_
    refine L.pass rfl rfl (by nofun) ?_
    refine L.pass rfl rfl (by nofun) ?_
    refine L.pass rfl rfl (by nofun) ?_
    refine L.pass rfl rfl (by nofun) ?_
    refine L.pass rfl rfl (by nofun) ?_
    refine L.pass rfl rfl (by nofun) ?_
    refine L.y rfl (Y.pickT rfl rfl) ?_
    refine L.nil (E.thenN (W.condT rfl ?_))
    refine W.seq (W.region (L.y rfl (Y.assign rfl) ?_))
    refine L.nil (E.thenN (W.ret (E.KSR (E.ret1 rfl rfl (fun w1 hw => ?_)))))
    obtain rfl := Option.some.inj h
    exact ⟨_, _, rfl, ⟨_, _, _, rfl, rfl⟩, hw⟩
   ·
    refine L.y rfl (Y.move rfl) ?_
    refine L.take rfl (L.y rfl (Y.move rfl) ?_)
    refine L.take rfl (L.y rfl (Y.move rfl) ?_)
    refine L.take rfl (L.y rfl (Y.nilCheck rfl) ?_)
    refine L.take rfl (L.y rfl (Y.fieldP fd48_0 rfl) ?_)
    refine L.take rfl (L.y rfl (Y.loadP (i := 0) ag30 rfl rfl rfl) ?_)
    refine L.take rfl (L.y rfl (Y.lenM (g := SR) (l := a0_Seen) Tryd.underlying30 rfl (fun w hw => As.at_ (hw.get (i := 1) rfl))) ?_)
    refine L.take rfl (L.ite h rfl (Y.geq rfl rfl) (fun c54 h => ?_) (fun c54 h => ?_))
    ·
     refine L.y rfl (Y.pickF rfl rfl) ?_
     refine L.nil (E.thenN (W.condT rfl ?_))
     refine W.seq (W.region (L.y rfl (Y.assign rfl) ?_))
     refine L.nil (E.thenN (W.ret (E.KSR (E.ret1 rfl rfl (fun w1 hw => ?_)))))
     obtain rfl := Option.some.inj h
     exact ⟨_, _, rfl, ⟨_, _, _, rfl, rfl⟩, hw⟩
    ·
     refine L.y rfl (Y.pickF rfl rfl) ?_
     refine L.nil (E.thenN (W.condF rfl ?_))
     exact W.skip (E.joinJ ⟨rfl, rfl, h⟩ ⟨rfl, rfl, rfl, trivial⟩ (fun _ hw => hw))
  ·
   rintro _ _ ⟨rfl, rfl, h⟩
   rw [m36_quirref_Disk_Write_K1] at h
   refine W.seqJ (fun gs D => gs = [(0, pt pb0 0), (1, .int .i64 a1), (2, st a2)] ∧ D = Cls w F [.obj pb0 [p0_Seen, p0_Safe, p0_late, p0_texts, .int .i64 a0_left] 48, .sl p0_Seen 9 1 (a0_Seen.map SR), .sl p0_Safe 9 1 (a0_Safe.map SR), .sl p0_late 3 1 (a0_late.map I), .sl p0_texts 9 1 (a0_texts.map SR)] ∧ m36_quirref_Disk_Write_K2 a0_left a0_Seen a0_late a0_texts a2 a1 = some r) ?_ ?_
   ·
    refine W.seq (W.region (L.y rfl (Y.move rfl) ?_))
    refine L.y rfl (Y.lenS Tryd.underlying9 rfl) ?_
    refine L.ite h rfl (Y.gtr rfl rfl) (fun c52 h => ?_) (fun c52 h => ?_)
    ·
     refine L.nil (E.thenN (W.condT rfl ?_))
     refine W.seq (W.region (L.y rfl (Y.assign rfl) ?_))
     refine L.nil (E.thenN (W.ret (E.KSR (E.ret1 rfl rfl (fun w1 hw => ?_)))))
     obtain rfl := Option.some.inj h
     exact ⟨_, _, rfl, ⟨_, _, _, rfl, rfl⟩, hw⟩
    ·
     refine L.nil (E.thenN (W.condF rfl ?_))
     exact W.skip (E.joinJ ⟨rfl, rfl, h⟩ ⟨rfl, rfl, rfl, trivial⟩ (fun _ hw => hw))
   ·
    rintro _ _ ⟨rfl, rfl, h⟩
    rw [m36_quirref_Disk_Write_K2] at h
    refine W.seqJ (fun gs D => gs = [(0, pt pb0 0), (1, .int .i64 a1), (2, st a2)] ∧ D = Cls w F [.obj pb0 [p0_Seen, p0_Safe, p0_late, p0_texts, .int .i64 a0_left] 48, .sl p0_Seen 9 1 (a0_Seen.map SR), .sl p0_Safe 9 1 (a0_Safe.map SR), .sl p0_late 3 1 (a0_late.map I), .sl p0_texts 9 1 (a0_texts.map SR)] ∧ m36_quirref_Disk_Write_K3 a0_left a2 a0_Seen a1 a0_late a0_texts = some r) ?_ ?_
    ·
     refine W.seq (W.region (L.y rfl (Y.move rfl) ?_))
     refine L.y rfl (Y.nilCheck rfl) ?_
     refine L.y rfl (Y.fieldP fd48_4 rfl) ?_
     refine L.y rfl (Y.loadP (i := 0) ag3 rfl rfl rfl) ?_
     refine L.ite h rfl (Y.eql rfl rfl) (fun c51 h => ?_) (fun c51 h => ?_)
     ·
      refine L.nil (E.thenN (W.condT rfl ?_))
      refine W.seq (W.region (L.y rfl (Y.assign rfl) ?_))
      refine L.nil (E.thenN (W.ret (E.KSR (E.ret1 rfl rfl (fun w1 hw => ?_)))))
      obtain rfl := Option.some.inj h
      exact ⟨_, _, rfl, ⟨_, _, _, rfl, rfl⟩, hw⟩
     ·
      refine L.nil (E.thenN (W.condF rfl ?_))
      exact W.skip (E.joinJ ⟨rfl, rfl, h⟩ ⟨rfl, rfl, rfl, trivial⟩ (fun _ hw => hw))
    ·
     rintro _ _ ⟨rfl, rfl, h⟩
     rw [m36_quirref_Disk_Write_K3] at h
     refine W.seq (W.drawn2 (k := 15) (stC [[14]] [Cls w F [.obj pb0 [p0_Seen, p0_Safe, p0_late, p0_texts, .int .i64 a0_left] 48, .sl p0_Seen 9 1 (a0_Seen.map SR), .sl p0_Safe 9 1 (a0_Safe.map SR), .sl p0_late 3 1 (a0_late.map I), .sl p0_texts 9 1 (a0_texts.map SR)]] (Cls w F [.sl p0_Seen 9 1 (a0_Seen.map SR), .sl p0_Safe 9 1 (a0_Safe.map SR), .sl p0_late 3 1 (a0_late.map I), .sl p0_texts 9 1 (a0_texts.map SR)])) rfl mixed (fun _ hw => hw.drew) (Sc.now (by kernel_rfl) (fun _ hw => hw)) ?_)
     refine V2.y (i := 0) (Nx2.of (Z := Cls w F [.sl p0_Seen 9 1 (a0_Seen.map SR), .sl p0_Safe 9 1 (a0_Safe.map SR), .sl p0_late 3 1 (a0_late.map I), .sl p0_texts 9 1 (a0_texts.map SR)]) [] (by kernel_rfl) rfl (Zc.on (fun _ hw => hw.sel [1, 2, 3, 4] (by decide) rfl) (Zc.fin (fun _ hw => hw)))) rfl rfl rfl (Y.move rfl) ?_
     refine V2.y (i := 1) (Nx2.of (Z := Cls w F [.sl p0_Seen 9 1 (a0_Seen.map SR), .sl p0_Safe 9 1 (a0_Safe.map SR), .sl p0_late 3 1 (a0_late.map I), .sl p0_texts 9 1 (a0_texts.map SR)]) [] (by kernel_rfl) rfl (Zc.on (fun _ hw => hw.sel [1, 2, 3, 4] (by decide) rfl) (Zc.fin (fun _ hw => hw)))) rfl rfl rfl (Y.move rfl) ?_
     refine V2.nilc (i := 2) (Nx2.of (Z := Cls w F [.sl p0_Seen 9 1 (a0_Seen.map SR), .sl p0_Safe 9 1 (a0_Safe.map SR), .sl p0_late 3 1 (a0_late.map I), .sl p0_texts 9 1 (a0_texts.map SR)]) [] (by kernel_rfl) rfl (Zc.on (fun _ hw => hw.sel [1, 2, 3, 4] (by decide) rfl) (Zc.fin (fun _ hw => hw)))) rfl rfl rfl ?_
     refine V2.y (i := 3) (Nx2.of (Z := Cls w F [.sl p0_Seen 9 1 (a0_Seen.map SR), .sl p0_Safe 9 1 (a0_Safe.map SR), .sl p0_late 3 1 (a0_late.map I), .sl p0_texts 9 1 (a0_texts.map SR)]) [] (by kernel_rfl) rfl (Zc.on (fun _ hw => hw.sel [1, 2, 3, 4] (by decide) rfl) (Zc.fin (fun _ hw => hw)))) rfl rfl rfl (Y.fieldP fd48_4 rfl) ?_
     refine V2.y (i := 4) (Nx2.of (Z := Cls w F [.obj pb0 [p0_Seen, p0_Safe, p0_late, p0_texts, .int .i64 a0_left] 48, .sl p0_Seen 9 1 (a0_Seen.map SR), .sl p0_Safe 9 1 (a0_Safe.map SR), .sl p0_late 3 1 (a0_late.map I), .sl p0_texts 9 1 (a0_texts.map SR)]) [14] (by kernel_rfl) rfl (Zc.at1 (fun _ hw => hw))) rfl rfl rfl (Y.loadP (i := 0) ag3 rfl rfl rfl) ?_
     refine V2.m (i := 5) (V' := fun x2 => .int .i64 x2) h (Nx2.of (Z := Cls w F [.sl p0_Seen 9 1 (a0_Seen.map SR), .sl p0_Safe 9 1 (a0_Safe.map SR), .sl p0_late 3 1 (a0_late.map I), .sl p0_texts 9 1 (a0_texts.map SR)]) [] (by kernel_rfl) rfl (Zc.on (fun _ hw => hw.sel [1, 2, 3, 4] (by decide) rfl) (Zc.fin (fun _ hw => hw)))) rfl rfl rfl (Y.subM rfl rfl) (fun x2 ex2 h => ?_)
     refine V2.y (i := 6) (Nx2.of (Z := Cls w F [.sl p0_Seen 9 1 (a0_Seen.map SR), .sl p0_Safe 9 1 (a0_Safe.map SR), .sl p0_late 3 1 (a0_late.map I), .sl p0_texts 9 1 (a0_texts.map SR)]) [] (by kernel_rfl) rfl (Zc.on (fun _ hw => hw.sel [1, 2, 3, 4] (by decide) rfl) (Zc.fin (fun _ hw => hw)))) rfl rfl rfl (Y.move rfl) ?_
     refine V2.nilc (i := 7) (Nx2.of (Z := Cls w F [.sl p0_Seen 9 1 (a0_Seen.map SR), .sl p0_Safe 9 1 (a0_Safe.map SR), .sl p0_late 3 1 (a0_late.map I), .sl p0_texts 9 1 (a0_texts.map SR)]) [] (by kernel_rfl) rfl (Zc.on (fun _ hw => hw.sel [1, 2, 3, 4] (by decide) rfl) (Zc.fin (fun _ hw => hw)))) rfl rfl rfl ?_
     refine V2.y (i := 8) (Nx2.of (Z := Cls w F [.sl p0_Seen 9 1 (a0_Seen.map SR), .sl p0_Safe 9 1 (a0_Safe.map SR), .sl p0_late 3 1 (a0_late.map I), .sl p0_texts 9 1 (a0_texts.map SR)]) [] (by kernel_rfl) rfl (Zc.on (fun _ hw => hw.sel [1, 2, 3, 4] (by decide) rfl) (Zc.fin (fun _ hw => hw)))) rfl rfl rfl (Y.fieldP fd48_4 rfl) ?_
     refine V2.y (i := 9) (Nx2.of (Z := Cls w F [.obj pb0 [p0_Seen, p0_Safe, p0_late, p0_texts, .int .i64 a0_left] 48, .sl p0_Seen 9 1 (a0_Seen.map SR), .sl p0_Safe 9 1 (a0_Safe.map SR), .sl p0_late 3 1 (a0_late.map I), .sl p0_texts 9 1 (a0_texts.map SR)]) [14] (by kernel_rfl) rfl (Zc.at1 (fun _ hw => hw))) rfl rfl rfl (Y.loadP (i := 0) ag3 rfl rfl rfl) ?_
     refine V2.y (i := 10) (Nx2.of (Z := Cls w F [.sl p0_Seen 9 1 (a0_Seen.map SR), .sl p0_Safe 9 1 (a0_Safe.map SR), .sl p0_late 3 1 (a0_late.map I), .sl p0_texts 9 1 (a0_texts.map SR)]) [] (by kernel_rfl) rfl (Zc.on (fun _ hw => hw.sel [1, 2, 3, 4] (by decide) rfl) (Zc.fin (fun _ hw => hw)))) rfl rfl rfl (Y.min2 rfl rfl) ?_
     refine V2.y (i := 11) (Nx2.of (Z := Cls w F [.sl p0_Seen 9 1 (a0_Seen.map SR), .sl p0_Safe 9 1 (a0_Safe.map SR), .sl p0_late 3 1 (a0_late.map I), .sl p0_texts 9 1 (a0_texts.map SR)]) [] (by kernel_rfl) rfl (Zc.on (fun _ hw => hw.sel [1, 2, 3, 4] (by decide) rfl) (Zc.fin (fun _ hw => hw)))) rfl rfl rfl (Y.max2 rfl rfl) ?_
     refine V2.nilc (i := 12) (Nx2.of (Z := Cls w F [.sl p0_Seen 9 1 (a0_Seen.map SR), .sl p0_Safe 9 1 (a0_Safe.map SR), .sl p0_late 3 1 (a0_late.map I), .sl p0_texts 9 1 (a0_texts.map SR)]) [] (by kernel_rfl) rfl (Zc.on (fun _ hw => hw.sel [1, 2, 3, 4] (by decide) rfl) (Zc.fin (fun _ hw => hw)))) rfl rfl rfl ?_
     refine V2.y (i := 13) (Nx2.of (Z := Cls w F [.sl p0_Seen 9 1 (a0_Seen.map SR), .sl p0_Safe 9 1 (a0_Safe.map SR), .sl p0_late 3 1 (a0_late.map I), .sl p0_texts 9 1 (a0_texts.map SR)]) [] (by kernel_rfl) rfl (Zc.on (fun _ hw => hw.sel [1, 2, 3, 4] (by decide) rfl) (Zc.fin (fun _ hw => hw)))) rfl rfl rfl (Y.fieldP fd48_4 rfl) ?_
     refine V2.eff (i := 14) (by kernel_rfl) rfl ?_
     refine L.store (i := 0) (vs := [.int .i64 (max x2 (min a0_left (-1)))]) sz3 rfl rfl rfl rfl (by simp [Value.oneCell', Value.cells, st, pt, el]) rfl (Nat.le_of_ble_eq_true rfl) ?_
     refine L.nil (E.toV2 (stC [] [] (Cls w F [.sl p0_Seen 9 1 (a0_Seen.map SR), .sl p0_Safe 9 1 (a0_Safe.map SR), .sl p0_late 3 1 (a0_late.map I), .sl p0_texts 9 1 (a0_texts.map SR)])) 14 (by kernel_rfl) (Sc.past rfl (Sc.stayD (fun _ hw => hw))) (Sc.atD (fun _ hw => hw.sel [1, 2, 3, 4] (by decide) rfl)) ?_)
     refine V2.done (by kernel_rfl) ?_
     refine E.thenN (W.seq (W.drawn2 (k := 13) (stC [[12]] [Cls w F [.obj pb0 [p0_Seen, p0_Safe, p0_late, p0_texts, .int .i64 (max x2 (min a0_left (-1)))] 48, .sl p0_Seen 9 1 (a0_Seen.map SR), .sl p0_Safe 9 1 (a0_Safe.map SR), .sl p0_late 3 1 (a0_late.map I), .sl p0_texts 9 1 (a0_texts.map SR)]] (Cls w F [.obj pb0 [p0_Seen, p0_Safe, p0_late, p0_texts, .int .i64 (max x2 (min a0_left (-1)))] 48, .sl p0_Safe 9 1 (a0_Safe.map SR), .sl p0_late 3 1 (a0_late.map I), .sl p0_texts 9 1 (a0_texts.map SR)])) rfl mixed (fun _ hw => hw.drew) (Sc.now (by kernel_rfl) (fun _ hw => hw)) ?_))
     refine V2.y (i := 0) (Nx2.of (Z := Cls w F [.obj pb0 [p0_Seen, p0_Safe, p0_late, p0_texts, .int .i64 (max x2 (min a0_left (-1)))] 48, .sl p0_Safe 9 1 (a0_Safe.map SR), .sl p0_late 3 1 (a0_late.map I), .sl p0_texts 9 1 (a0_texts.map SR)]) [] (by kernel_rfl) rfl (Zc.on (fun _ hw => hw.sel [0, 2, 3, 4] (by decide) rfl) (Zc.fin (fun _ hw => hw)))) rfl rfl rfl (Y.move rfl) ?_
     refine V2.nilc (i := 1) (Nx2.of (Z := Cls w F [.obj pb0 [p0_Seen, p0_Safe, p0_late, p0_texts, .int .i64 (max x2 (min a0_left (-1)))] 48, .sl p0_Safe 9 1 (a0_Safe.map SR), .sl p0_late 3 1 (a0_late.map I), .sl p0_texts 9 1 (a0_texts.map SR)]) [] (by kernel_rfl) rfl (Zc.on (fun _ hw => hw.sel [0, 2, 3, 4] (by decide) rfl) (Zc.fin (fun _ hw => hw)))) rfl rfl rfl ?_
     refine V2.y (i := 2) (Nx2.of (Z := Cls w F [.obj pb0 [p0_Seen, p0_Safe, p0_late, p0_texts, .int .i64 (max x2 (min a0_left (-1)))] 48, .sl p0_Safe 9 1 (a0_Safe.map SR), .sl p0_late 3 1 (a0_late.map I), .sl p0_texts 9 1 (a0_texts.map SR)]) [] (by kernel_rfl) rfl (Zc.on (fun _ hw => hw.sel [0, 2, 3, 4] (by decide) rfl) (Zc.fin (fun _ hw => hw)))) rfl rfl rfl (Y.fieldP fd48_0 rfl) ?_
     refine V2.y (i := 3) (Nx2.of (Z := Cls w F [.obj pb0 [p0_Seen, p0_Safe, p0_late, p0_texts, .int .i64 (max x2 (min a0_left (-1)))] 48, .sl p0_Safe 9 1 (a0_Safe.map SR), .sl p0_late 3 1 (a0_late.map I), .sl p0_texts 9 1 (a0_texts.map SR)]) [] (by kernel_rfl) rfl (Zc.on (fun _ hw => hw.sel [0, 2, 3, 4] (by decide) rfl) (Zc.fin (fun _ hw => hw)))) rfl rfl rfl (Y.loadP (i := 0) ag30 rfl rfl rfl) ?_
     refine V2.y (i := 4) (Nx2.of (Z := Cls w F [.obj pb0 [p0_Seen, p0_Safe, p0_late, p0_texts, .int .i64 (max x2 (min a0_left (-1)))] 48, .sl p0_Safe 9 1 (a0_Safe.map SR), .sl p0_late 3 1 (a0_late.map I), .sl p0_texts 9 1 (a0_texts.map SR)]) [] (by kernel_rfl) rfl (Zc.on (fun _ hw => hw.sel [0, 2, 3, 4] (by decide) rfl) (Zc.fin (fun _ hw => hw)))) rfl rfl rfl (Y.move rfl) ?_
     refine V2.y (i := 5) (Nx2.of (Z := Cls w F [.obj pb0 [p0_Seen, p0_Safe, p0_late, p0_texts, .int .i64 (max x2 (min a0_left (-1)))] 48, .sl p0_Safe 9 1 (a0_Safe.map SR), .sl p0_late 3 1 (a0_late.map I), .sl p0_texts 9 1 (a0_texts.map SR)]) [] (by kernel_rfl) rfl (Zc.on (fun _ hw => hw.sel [0, 2, 3, 4] (by decide) rfl) (Zc.fin (fun _ hw => hw)))) rfl rfl rfl (Y.move rfl) ?_
     refine V2.y (i := 6) (Nx2.of (Z := Cls w F [.obj pb0 [p0_Seen, p0_Safe, p0_late, p0_texts, .int .i64 (max x2 (min a0_left (-1)))] 48, .sl p0_Safe 9 1 (a0_Safe.map SR), .sl p0_late 3 1 (a0_late.map I), .sl p0_texts 9 1 (a0_texts.map SR)]) [] (by kernel_rfl) rfl (Zc.on (fun _ hw => hw.sel [0, 2, 3, 4] (by decide) rfl) (Zc.fin (fun _ hw => hw)))) rfl rfl rfl (Y.move rfl) ?_
     refine V2.y (i := 7) (Nx2.of (Z := Cls w F [.obj pb0 [p0_Seen, p0_Safe, p0_late, p0_texts, .int .i64 (max x2 (min a0_left (-1)))] 48, .sl p0_Safe 9 1 (a0_Safe.map SR), .sl p0_late 3 1 (a0_late.map I), .sl p0_texts 9 1 (a0_texts.map SR)]) [] (by kernel_rfl) rfl (Zc.on (fun _ hw => hw.sel [0, 2, 3, 4] (by decide) rfl) (Zc.fin (fun _ hw => hw)))) rfl rfl rfl (Y.lenS Tryd.underlying9 rfl) ?_
     refine V2.m (i := 8) (V' := fun x9 => .int .i64 x9) h (Nx2.of (Z := Cls w F [.obj pb0 [p0_Seen, p0_Safe, p0_late, p0_texts, .int .i64 (max x2 (min a0_left (-1)))] 48, .sl p0_Safe 9 1 (a0_Safe.map SR), .sl p0_late 3 1 (a0_late.map I), .sl p0_texts 9 1 (a0_texts.map SR)]) [] (by kernel_rfl) rfl (Zc.on (fun _ hw => hw.sel [0, 2, 3, 4] (by decide) rfl) (Zc.fin (fun _ hw => hw)))) rfl rfl rfl (Y.subM rfl rfl) (fun x9 ex9 h => ?_)
     refine V2.eff (i := 9) (by kernel_rfl) rfl ?_
     obtain ⟨s10, e11, h⟩ := bind1S h
     refine L.y rfl (Y.does en23 rfl (fun w' hw => (w23_quirref_blank x9 w' _ e11).mono (fun _ _ h => h.1))) ?_
     refine L.nil (E.toV2 (stC [[12]] [Cls w F [.obj pb0 [p0_Seen, p0_Safe, p0_late, p0_texts, .int .i64 (max x2 (min a0_left (-1)))] 48, .sl p0_Seen 9 1 (a0_Seen.map SR), .sl p0_Safe 9 1 (a0_Safe.map SR), .sl p0_late 3 1 (a0_late.map I), .sl p0_texts 9 1 (a0_texts.map SR)]] (Cls w F [.obj pb0 [p0_Seen, p0_Safe, p0_late, p0_texts, .int .i64 (max x2 (min a0_left (-1)))] 48, .sl p0_Safe 9 1 (a0_Safe.map SR), .sl p0_late 3 1 (a0_late.map I), .sl p0_texts 9 1 (a0_texts.map SR)])) 9 (by kernel_rfl) (Sc.stay (fun _ hw => hw) (Sc.stayD (fun _ hw => hw))) (Sc.now (by kernel_rfl) (fun _ hw => hw)) ?_)
     refine V2.m (i := 10) (V' := fun s12 => st s12) h (Nx2.of (Z := Cls w F [.obj pb0 [p0_Seen, p0_Safe, p0_late, p0_texts, .int .i64 (max x2 (min a0_left (-1)))] 48, .sl p0_Safe 9 1 (a0_Safe.map SR), .sl p0_late 3 1 (a0_late.map I), .sl p0_texts 9 1 (a0_texts.map SR)]) [] (by kernel_rfl) rfl (Zc.on (fun _ hw => hw.sel [0, 2, 3, 4] (by decide) rfl) (Zc.fin (fun _ hw => hw)))) rfl rfl rfl (Y.catM rfl rfl) (fun s12 es12 h => ?_)
     refine V2.m (i := 11) (V' := fun _ => el p0_Seen (a1.toNat * 1)) h (Nx2.of (Z := Cls w F [.obj pb0 [p0_Seen, p0_Safe, p0_late, p0_texts, .int .i64 (max x2 (min a0_left (-1)))] 48, .sl p0_Seen 9 1 (a0_Seen.map SR), .sl p0_Safe 9 1 (a0_Safe.map SR), .sl p0_late 3 1 (a0_late.map I), .sl p0_texts 9 1 (a0_texts.map SR)]) [12] (by kernel_rfl) rfl (Zc.at1 (fun _ hw => hw))) rfl rfl rfl (Y.indexM (g := SR) (l := a0_Seen) Tryd.underlying30 sz9 rfl rfl (fun w hw => As.at_ (hw.get (i := 1) rfl))) (fun x13 ex13 h => ?_)
     refine V2.eff (i := 12) (by kernel_rfl) rfl ?_
     refine L.storeSlM (q := 1) (row := SR) (vs := [st s12]) (j := 0) (u1 := s12) h sz9 rfl rfl rfl rfl rfl (all1 rfl all0) rfl ex13 rfl rfl ?_
     intro l14 el14 h
     refine L.nil (E.toV2 (stC [] [] (Cls w F [.obj pb0 [p0_Seen, p0_Safe, p0_late, p0_texts, .int .i64 (max x2 (min a0_left (-1)))] 48, .sl p0_Safe 9 1 (a0_Safe.map SR), .sl p0_late 3 1 (a0_late.map I), .sl p0_texts 9 1 (a0_texts.map SR)])) 12 (by kernel_rfl) (Sc.past rfl (Sc.stayD (fun _ hw => hw))) (Sc.atD (fun _ hw => hw.sel [0, 2, 3, 4] (by decide) rfl)) ?_)
     refine V2.done (by kernel_rfl) ?_
     refine E.thenN (W.seqJ (fun gs D => ∃ (gv1 : Value) (gl2 : (List Int)) (gv3 : Value) (gl4 : (List (List UInt8))), gs = [] ∧ D = Cls w F [.obj pb0 [p0_Seen, p0_Safe, gv1, gv3, .int .i64 (max x2 (min a0_left (-1)))] 48, .sl p0_Seen 9 1 (l14.map SR), .sl p0_Safe 9 1 (a0_Safe.map SR), .sl gv1 3 1 (gl2.map I), .sl gv3 9 1 (gl4.map SR)] ∧ m36_quirref_Disk_Write_K4 l14 x2 a0_left gl2 gl4 = some r) ?_ ?_)
     ·
      refine W.drawn2 (k := 28) (stC [[8, 21, 24], [21, 24], [24]] [Cls w F [.obj pb0 [p0_Seen, p0_Safe, p0_late, p0_texts, .int .i64 (max x2 (min a0_left (-1)))] 48, .sl p0_Seen 9 1 (l14.map SR), .sl p0_Safe 9 1 (a0_Safe.map SR), .sl p0_late 3 1 (a0_late.map I), .sl p0_texts 9 1 (a0_texts.map SR)], Cls w F [.obj pb0 [p0_Seen, p0_Safe, p0_late, p0_texts, .int .i64 (max x2 (min a0_left (-1)))] 48, .sl p0_Seen 9 1 (l14.map SR), .sl p0_Safe 9 1 (a0_Safe.map SR), .sl p0_texts 9 1 (a0_texts.map SR)], Cls w F [.obj pb0 [p0_Seen, p0_Safe, p0_late, p0_texts, .int .i64 (max x2 (min a0_left (-1)))] 48, .sl p0_Seen 9 1 (l14.map SR), .sl p0_Safe 9 1 (a0_Safe.map SR)]] (Cls w F [.sl p0_Seen 9 1 (l14.map SR), .sl p0_Safe 9 1 (a0_Safe.map SR)])) rfl mixed (fun _ hw => hw.drew) (Sc.now (by kernel_rfl) (fun _ hw => hw)) ?_
      refine V2.y (i := 0) (Nx2.of (Z := Cls w F [.sl p0_Seen 9 1 (l14.map SR), .sl p0_Safe 9 1 (a0_Safe.map SR)]) [] (by kernel_rfl) rfl (Zc.on (fun _ hw => hw.sel [1, 2] (by decide) rfl) (Zc.on (fun _ hw => hw.sel [1, 2] (by decide) rfl) (Zc.on (fun _ hw => hw.sel [1, 2] (by decide) rfl) (Zc.fin (fun _ hw => hw)))))) rfl rfl rfl (Y.move rfl) ?_
      refine V2.y (i := 1) (Nx2.of (Z := Cls w F [.sl p0_Seen 9 1 (l14.map SR), .sl p0_Safe 9 1 (a0_Safe.map SR)]) [] (by kernel_rfl) rfl (Zc.on (fun _ hw => hw.sel [1, 2] (by decide) rfl) (Zc.on (fun _ hw => hw.sel [1, 2] (by decide) rfl) (Zc.on (fun _ hw => hw.sel [1, 2] (by decide) rfl) (Zc.fin (fun _ hw => hw)))))) rfl rfl rfl (Y.move rfl) ?_
      refine V2.y (i := 2) (Nx2.of (Z := Cls w F [.sl p0_Seen 9 1 (l14.map SR), .sl p0_Safe 9 1 (a0_Safe.map SR)]) [] (by kernel_rfl) rfl (Zc.on (fun _ hw => hw.sel [1, 2] (by decide) rfl) (Zc.on (fun _ hw => hw.sel [1, 2] (by decide) rfl) (Zc.on (fun _ hw => hw.sel [1, 2] (by decide) rfl) (Zc.fin (fun _ hw => hw)))))) rfl rfl rfl (Y.move rfl) ?_
      refine V2.nilc (i := 3) (Nx2.of (Z := Cls w F [.sl p0_Seen 9 1 (l14.map SR), .sl p0_Safe 9 1 (a0_Safe.map SR)]) [] (by kernel_rfl) rfl (Zc.on (fun _ hw => hw.sel [1, 2] (by decide) rfl) (Zc.on (fun _ hw => hw.sel [1, 2] (by decide) rfl) (Zc.on (fun _ hw => hw.sel [1, 2] (by decide) rfl) (Zc.fin (fun _ hw => hw)))))) rfl rfl rfl ?_
      refine V2.y (i := 4) (Nx2.of (Z := Cls w F [.sl p0_Seen 9 1 (l14.map SR), .sl p0_Safe 9 1 (a0_Safe.map SR)]) [] (by kernel_rfl) rfl (Zc.on (fun _ hw => hw.sel [1, 2] (by decide) rfl) (Zc.on (fun _ hw => hw.sel [1, 2] (by decide) rfl) (Zc.on (fun _ hw => hw.sel [1, 2] (by decide) rfl) (Zc.fin (fun _ hw => hw)))))) rfl rfl rfl (Y.fieldP fd48_2 rfl) ?_
      refine V2.y (i := 5) (Nx2.of (Z := Cls w F [.obj pb0 [p0_Seen, p0_Safe, p0_late, p0_texts, .int .i64 (max x2 (min a0_left (-1)))] 48, .sl p0_Seen 9 1 (l14.map SR), .sl p0_Safe 9 1 (a0_Safe.map SR)]) [24] (by kernel_rfl) rfl (Zc.on (fun _ hw => hw.sel [0, 1, 2] (by decide) rfl) (Zc.on (fun _ hw => hw.sel [0, 1, 2] (by decide) rfl) (Zc.at1 (fun _ hw => hw))))) rfl rfl rfl (Y.loadP (i := 0) ag46 rfl rfl rfl) ?_
      refine V2.y (i := 6) (Nx2.of (Z := Cls w F [.sl p0_Seen 9 1 (l14.map SR), .sl p0_Safe 9 1 (a0_Safe.map SR)]) [] (by kernel_rfl) rfl (Zc.on (fun _ hw => hw.sel [1, 2] (by decide) rfl) (Zc.on (fun _ hw => hw.sel [1, 2] (by decide) rfl) (Zc.on (fun _ hw => hw.sel [1, 2] (by decide) rfl) (Zc.fin (fun _ hw => hw)))))) rfl rfl rfl (Y.move rfl) ?_
      refine V2.y (i := 9) (Nx2.of (Z := Cls w F [.sl p0_Seen 9 1 (l14.map SR), .sl p0_Safe 9 1 (a0_Safe.map SR)]) [] (by kernel_rfl) rfl (Zc.on (fun _ hw => hw.sel [1, 2] (by decide) rfl) (Zc.on (fun _ hw => hw.sel [1, 2] (by decide) rfl) (Zc.on (fun _ hw => hw.sel [1, 2] (by decide) rfl) (Zc.fin (fun _ hw => hw)))))) rfl rfl rfl (Y.move rfl) ?_
      refine V2.nilc (i := 10) (Nx2.of (Z := Cls w F [.sl p0_Seen 9 1 (l14.map SR), .sl p0_Safe 9 1 (a0_Safe.map SR)]) [] (by kernel_rfl) rfl (Zc.on (fun _ hw => hw.sel [1, 2] (by decide) rfl) (Zc.on (fun _ hw => hw.sel [1, 2] (by decide) rfl) (Zc.on (fun _ hw => hw.sel [1, 2] (by decide) rfl) (Zc.fin (fun _ hw => hw)))))) rfl rfl rfl ?_
      refine V2.y (i := 11) (Nx2.of (Z := Cls w F [.sl p0_Seen 9 1 (l14.map SR), .sl p0_Safe 9 1 (a0_Safe.map SR)]) [] (by kernel_rfl) rfl (Zc.on (fun _ hw => hw.sel [1, 2] (by decide) rfl) (Zc.on (fun _ hw => hw.sel [1, 2] (by decide) rfl) (Zc.on (fun _ hw => hw.sel [1, 2] (by decide) rfl) (Zc.fin (fun _ hw => hw)))))) rfl rfl rfl (Y.fieldP fd48_3 rfl) ?_
      refine V2.y (i := 12) (Nx2.of (Z := Cls w F [.obj pb0 [p0_Seen, p0_Safe, p0_late, p0_texts, .int .i64 (max x2 (min a0_left (-1)))] 48, .sl p0_Seen 9 1 (l14.map SR), .sl p0_Safe 9 1 (a0_Safe.map SR)]) [24] (by kernel_rfl) rfl (Zc.on (fun _ hw => hw.sel [0, 1, 2] (by decide) rfl) (Zc.on (fun _ hw => hw.sel [0, 1, 2] (by decide) rfl) (Zc.at1 (fun _ hw => hw))))) rfl rfl rfl (Y.loadP (i := 0) ag30 rfl rfl rfl) ?_
      refine V2.y (i := 13) (Nx2.of (Z := Cls w F [.sl p0_Seen 9 1 (l14.map SR), .sl p0_Safe 9 1 (a0_Safe.map SR)]) [] (by kernel_rfl) rfl (Zc.on (fun _ hw => hw.sel [1, 2] (by decide) rfl) (Zc.on (fun _ hw => hw.sel [1, 2] (by decide) rfl) (Zc.on (fun _ hw => hw.sel [1, 2] (by decide) rfl) (Zc.fin (fun _ hw => hw)))))) rfl rfl rfl (Y.move rfl) ?_
      refine V2.nilc (i := 14) (Nx2.of (Z := Cls w F [.sl p0_Seen 9 1 (l14.map SR), .sl p0_Safe 9 1 (a0_Safe.map SR)]) [] (by kernel_rfl) rfl (Zc.on (fun _ hw => hw.sel [1, 2] (by decide) rfl) (Zc.on (fun _ hw => hw.sel [1, 2] (by decide) rfl) (Zc.on (fun _ hw => hw.sel [1, 2] (by decide) rfl) (Zc.fin (fun _ hw => hw)))))) rfl rfl rfl ?_
      refine V2.y (i := 15) (Nx2.of (Z := Cls w F [.sl p0_Seen 9 1 (l14.map SR), .sl p0_Safe 9 1 (a0_Safe.map SR)]) [] (by kernel_rfl) rfl (Zc.on (fun _ hw => hw.sel [1, 2] (by decide) rfl) (Zc.on (fun _ hw => hw.sel [1, 2] (by decide) rfl) (Zc.on (fun _ hw => hw.sel [1, 2] (by decide) rfl) (Zc.fin (fun _ hw => hw)))))) rfl rfl rfl (Y.fieldP fd48_0 rfl) ?_
      refine V2.y (i := 16) (Nx2.of (Z := Cls w F [.obj pb0 [p0_Seen, p0_Safe, p0_late, p0_texts, .int .i64 (max x2 (min a0_left (-1)))] 48, .sl p0_Seen 9 1 (l14.map SR), .sl p0_Safe 9 1 (a0_Safe.map SR)]) [24] (by kernel_rfl) rfl (Zc.on (fun _ hw => hw.sel [0, 1, 2] (by decide) rfl) (Zc.on (fun _ hw => hw.sel [0, 1, 2] (by decide) rfl) (Zc.at1 (fun _ hw => hw))))) rfl rfl rfl (Y.loadP (i := 0) ag30 rfl rfl rfl) ?_
      refine V2.y (i := 17) (Nx2.of (Z := Cls w F [.sl p0_Seen 9 1 (l14.map SR), .sl p0_Safe 9 1 (a0_Safe.map SR)]) [] (by kernel_rfl) rfl (Zc.on (fun _ hw => hw.sel [1, 2] (by decide) rfl) (Zc.on (fun _ hw => hw.sel [1, 2] (by decide) rfl) (Zc.on (fun _ hw => hw.sel [1, 2] (by decide) rfl) (Zc.fin (fun _ hw => hw)))))) rfl rfl rfl (Y.move rfl) ?_
      refine V2.m (i := 18) (V' := fun _ => el p0_Seen (a1.toNat * 1)) h (Nx2.of (Z := Cls w F [.sl p0_Seen 9 1 (l14.map SR), .sl p0_Safe 9 1 (a0_Safe.map SR)]) [] (by kernel_rfl) rfl (Zc.on (fun _ hw => hw.sel [1, 2] (by decide) rfl) (Zc.on (fun _ hw => hw.sel [1, 2] (by decide) rfl) (Zc.on (fun _ hw => hw.sel [1, 2] (by decide) rfl) (Zc.fin (fun _ hw => hw)))))) rfl rfl rfl (Y.indexM (g := SR) (l := l14) Tryd.underlying30 sz9 rfl rfl (fun w hw => As.at_ (hw.get (i := 0) rfl))) (fun x33 ex33 h => ?_)
      refine V2.y (i := 19) (Nx2.of (Z := Cls w F [.sl p0_Seen 9 1 (l14.map SR), .sl p0_Safe 9 1 (a0_Safe.map SR)]) [] (by kernel_rfl) rfl (Zc.on (fun _ hw => hw.sel [1, 2] (by decide) rfl) (Zc.on (fun _ hw => hw.sel [1, 2] (by decide) rfl) (Zc.on (fun _ hw => hw.sel [1, 2] (by decide) rfl) (Zc.fin (fun _ hw => hw)))))) rfl rfl rfl (Y.loadE1 (u := st x33) ag9 rfl (fun w hw => As.at_ (hw.get (i := 0) rfl)) (idx_map ex33)) ?_
      refine V2.eff2 (i1 := 7) (i2 := 20) (by kernel_rfl) rfl rfl ?_ ?_
      ·
       refine L.litOne rfl Tryd.underlying46 eL3 rfl rfl ?_
       intro b34
       refine L.nil (E.toV2 (stC [[8, 21, 24], [21, 24], [24]] [Cls w F [.sl (sv b34 1) 3 1 (([a1]).map I), .obj pb0 [p0_Seen, p0_Safe, p0_late, p0_texts, .int .i64 (max x2 (min a0_left (-1)))] 48, .sl p0_Seen 9 1 (l14.map SR), .sl p0_Safe 9 1 (a0_Safe.map SR), .sl p0_late 3 1 (a0_late.map I), .sl p0_texts 9 1 (a0_texts.map SR)], Cls w F [.sl (sv b34 1) 3 1 (([a1]).map I), .obj pb0 [p0_Seen, p0_Safe, p0_late, p0_texts, .int .i64 (max x2 (min a0_left (-1)))] 48, .sl p0_Seen 9 1 (l14.map SR), .sl p0_Safe 9 1 (a0_Safe.map SR), .sl p0_texts 9 1 (a0_texts.map SR)], Cls w F [.sl (sv b34 1) 3 1 (([a1]).map I), .obj pb0 [p0_Seen, p0_Safe, p0_late, p0_texts, .int .i64 (max x2 (min a0_left (-1)))] 48, .sl p0_Seen 9 1 (l14.map SR), .sl p0_Safe 9 1 (a0_Safe.map SR)]] (Cls w F [.sl (sv b34 1) 3 1 (([a1]).map I), .sl p0_Seen 9 1 (l14.map SR), .sl p0_Safe 9 1 (a0_Safe.map SR)])) 7 (by kernel_rfl) (Sc.stay (fun _ hw => hw.sel [1, 2, 3, 4, 5] (by decide) rfl) (Sc.stay (fun _ hw => hw.sel [1, 2, 3, 4] (by decide) rfl) (Sc.stay (fun _ hw => hw.sel [1, 2, 3] (by decide) rfl) (Sc.stayD (fun _ hw => hw.sel [1, 2] (by decide) rfl))))) (Sc.now (by kernel_rfl) (fun _ hw => hw)) ?_)
       refine V2.eff2 (i1 := 8) (i2 := 20) (by kernel_rfl) rfl rfl ?_ ?_
       ·
        refine L.appM (i := 4) (g := I) (l := a0_late) (more := [a1]) h rfl Tryd.underlying46 eL3 rfl rfl rfl (fun w hw => As.at_ (hw.get (i := 0) rfl)) (plain_ints _) rfl ?_
        intro v35 l36 el36 h
        refine L.nil (E.toV2 (stC [[21, 24], [24]] [Cls w F [.sl v35 3 1 (l36.map I), .sl (sv b34 1) 3 1 (([a1]).map I), .obj pb0 [p0_Seen, p0_Safe, p0_late, p0_texts, .int .i64 (max x2 (min a0_left (-1)))] 48, .sl p0_Seen 9 1 (l14.map SR), .sl p0_Safe 9 1 (a0_Safe.map SR), .sl p0_texts 9 1 (a0_texts.map SR)], Cls w F [.sl v35 3 1 (l36.map I), .sl (sv b34 1) 3 1 (([a1]).map I), .obj pb0 [p0_Seen, p0_Safe, p0_late, p0_texts, .int .i64 (max x2 (min a0_left (-1)))] 48, .sl p0_Seen 9 1 (l14.map SR), .sl p0_Safe 9 1 (a0_Safe.map SR)]] (Cls w F [.sl v35 3 1 (l36.map I), .sl (sv b34 1) 3 1 (([a1]).map I), .sl p0_Seen 9 1 (l14.map SR), .sl p0_Safe 9 1 (a0_Safe.map SR)])) 8 (by kernel_rfl) (Sc.past rfl (Sc.stay (fun _ hw => hw.sel [1, 2, 3, 4, 5] (by decide) rfl) (Sc.stay (fun _ hw => hw.sel [1, 2, 3, 4] (by decide) rfl) (Sc.stayD (fun _ hw => hw.sel [1, 2, 3] (by decide) rfl))))) (Sc.now (by kernel_rfl) (fun _ hw => hw)) ?_)
        refine V2.eff (i := 20) (by kernel_rfl) rfl ?_
        refine L.litOne rfl Tryd.underlying30 eL9 rfl rfl ?_
        intro b37
        refine L.nil (E.toV2 (stC [[21, 24], [24]] [Cls w F [.sl (sv b37 1) 9 1 (([x33]).map SR), .sl v35 3 1 (l36.map I), .sl (sv b34 1) 3 1 (([a1]).map I), .obj pb0 [p0_Seen, p0_Safe, p0_late, p0_texts, .int .i64 (max x2 (min a0_left (-1)))] 48, .sl p0_Seen 9 1 (l14.map SR), .sl p0_Safe 9 1 (a0_Safe.map SR), .sl p0_texts 9 1 (a0_texts.map SR)], Cls w F [.sl (sv b37 1) 9 1 (([x33]).map SR), .sl v35 3 1 (l36.map I), .sl (sv b34 1) 3 1 (([a1]).map I), .obj pb0 [p0_Seen, p0_Safe, p0_late, p0_texts, .int .i64 (max x2 (min a0_left (-1)))] 48, .sl p0_Seen 9 1 (l14.map SR), .sl p0_Safe 9 1 (a0_Safe.map SR)]] (Cls w F [.sl (sv b37 1) 9 1 (([x33]).map SR), .sl v35 3 1 (l36.map I), .sl (sv b34 1) 3 1 (([a1]).map I), .sl p0_Seen 9 1 (l14.map SR), .sl p0_Safe 9 1 (a0_Safe.map SR)])) 20 (by kernel_rfl) (Sc.stay (fun _ hw => hw.sel [1, 2, 3, 4, 5, 6] (by decide) rfl) (Sc.stay (fun _ hw => hw.sel [1, 2, 3, 4, 5] (by decide) rfl) (Sc.stayD (fun _ hw => hw.sel [1, 2, 3, 4] (by decide) rfl)))) (Sc.now (by kernel_rfl) (fun _ hw => hw)) ?_)
        refine V2.eff (i := 21) (by kernel_rfl) rfl ?_
        refine L.appM (i := 6) (g := SR) (l := a0_texts) (more := [x33]) h rfl Tryd.underlying30 eL9 rfl rfl rfl (fun w hw => As.at_ (hw.get (i := 0) rfl)) (plain_SR _) rfl ?_
        intro v38 l39 el39 h
        refine L.nil (E.toV2 (stC [[24]] [Cls w F [.sl v38 9 1 (l39.map SR), .sl (sv b37 1) 9 1 (([x33]).map SR), .sl v35 3 1 (l36.map I), .sl (sv b34 1) 3 1 (([a1]).map I), .obj pb0 [p0_Seen, p0_Safe, p0_late, p0_texts, .int .i64 (max x2 (min a0_left (-1)))] 48, .sl p0_Seen 9 1 (l14.map SR), .sl p0_Safe 9 1 (a0_Safe.map SR)]] (Cls w F [.sl v38 9 1 (l39.map SR), .sl (sv b37 1) 9 1 (([x33]).map SR), .sl v35 3 1 (l36.map I), .sl (sv b34 1) 3 1 (([a1]).map I), .sl p0_Seen 9 1 (l14.map SR), .sl p0_Safe 9 1 (a0_Safe.map SR)])) 21 (by kernel_rfl) (Sc.past rfl (Sc.stay (fun _ hw => hw.sel [1, 2, 3, 4, 5, 6] (by decide) rfl) (Sc.stayD (fun _ hw => hw.sel [1, 2, 3, 4, 5] (by decide) rfl)))) (Sc.now (by kernel_rfl) (fun _ hw => hw)) ?_)
        refine V2.nilc (i := 22) (Nx2.of (Z := Cls w F [.sl v38 9 1 (l39.map SR), .sl (sv b37 1) 9 1 (([x33]).map SR), .sl v35 3 1 (l36.map I), .sl (sv b34 1) 3 1 (([a1]).map I), .sl p0_Seen 9 1 (l14.map SR), .sl p0_Safe 9 1 (a0_Safe.map SR)]) [] (by kernel_rfl) rfl (Zc.on (fun _ hw => hw.sel [0, 1, 2, 3, 5, 6] (by decide) rfl) (Zc.fin (fun _ hw => hw)))) rfl rfl rfl ?_
        refine V2.y (i := 23) (Nx2.of (Z := Cls w F [.sl v38 9 1 (l39.map SR), .sl (sv b37 1) 9 1 (([x33]).map SR), .sl v35 3 1 (l36.map I), .sl (sv b34 1) 3 1 (([a1]).map I), .sl p0_Seen 9 1 (l14.map SR), .sl p0_Safe 9 1 (a0_Safe.map SR)]) [] (by kernel_rfl) rfl (Zc.on (fun _ hw => hw.sel [0, 1, 2, 3, 5, 6] (by decide) rfl) (Zc.fin (fun _ hw => hw)))) rfl rfl rfl (Y.fieldP fd48_2 rfl) ?_
        refine V2.eff (i := 24) (by kernel_rfl) rfl ?_
        refine L.storeV (i := 4) sz46 rfl rfl (fun _ hw => (As.at_ (hw.get (i := 2) rfl)).one) rfl (Nat.le_of_ble_eq_true rfl) ?_
        refine L.nil (E.toV2 (stC [] [] (Cls w F [.sl v38 9 1 (l39.map SR), .sl (sv b37 1) 9 1 (([x33]).map SR), .sl v35 3 1 (l36.map I), .sl (sv b34 1) 3 1 (([a1]).map I), .sl p0_Seen 9 1 (l14.map SR), .sl p0_Safe 9 1 (a0_Safe.map SR)])) 24 (by kernel_rfl) (Sc.past rfl (Sc.stayD (fun _ hw => hw))) (Sc.atD (fun _ hw => hw.sel [0, 1, 2, 3, 5, 6] (by decide) rfl)) ?_)
        refine V2.nilc (i := 25) (Nx2.of (Z := Cls w F [.sl v38 9 1 (l39.map SR), .sl (sv b37 1) 9 1 (([x33]).map SR), .sl v35 3 1 (l36.map I), .sl (sv b34 1) 3 1 (([a1]).map I), .sl p0_Seen 9 1 (l14.map SR), .sl p0_Safe 9 1 (a0_Safe.map SR)]) [] (by kernel_rfl) rfl (Zc.fin (fun _ hw => hw))) rfl rfl rfl ?_
        refine V2.y (i := 26) (Nx2.of (Z := Cls w F [.sl v38 9 1 (l39.map SR), .sl (sv b37 1) 9 1 (([x33]).map SR), .sl v35 3 1 (l36.map I), .sl (sv b34 1) 3 1 (([a1]).map I), .sl p0_Seen 9 1 (l14.map SR), .sl p0_Safe 9 1 (a0_Safe.map SR)]) [] (by kernel_rfl) rfl (Zc.fin (fun _ hw => hw))) rfl rfl rfl (Y.fieldP fd48_3 rfl) ?_
        refine V2.eff (i := 27) (by kernel_rfl) rfl ?_
        refine L.storeV (i := 4) sz30 rfl rfl (fun _ hw => (As.at_ (hw.get (i := 0) rfl)).one) rfl (Nat.le_of_ble_eq_true rfl) ?_
        refine L.nil (E.toV2 (stC [] [] (Cls w F [.sl v38 9 1 (l39.map SR), .sl (sv b37 1) 9 1 (([x33]).map SR), .sl v35 3 1 (l36.map I), .sl (sv b34 1) 3 1 (([a1]).map I), .sl p0_Seen 9 1 (l14.map SR), .sl p0_Safe 9 1 (a0_Safe.map SR)])) 27 (by kernel_rfl) (Sc.stayD (fun _ hw => hw)) (Sc.atD (fun _ hw => hw.sel [0, 1, 2, 3, 5, 6] (by decide) rfl)) ?_)
        refine V2.done (by kernel_rfl) ?_
        exact E.joinJ ⟨v35, l36, v38, l39, rfl, rfl, h⟩ trivial (fun _ hw => hw.sel [4, 5, 6, 2, 0] (by decide) rfl)
       ·
        refine L.litOne rfl Tryd.underlying30 eL9 rfl rfl ?_
        intro b40
        refine L.nil (E.toV2 (stC [[8, 21, 24], [21, 24], [24]] [Cls w F [.sl (sv b40 1) 9 1 (([x33]).map SR), .sl (sv b34 1) 3 1 (([a1]).map I), .obj pb0 [p0_Seen, p0_Safe, p0_late, p0_texts, .int .i64 (max x2 (min a0_left (-1)))] 48, .sl p0_Seen 9 1 (l14.map SR), .sl p0_Safe 9 1 (a0_Safe.map SR), .sl p0_late 3 1 (a0_late.map I), .sl p0_texts 9 1 (a0_texts.map SR)], Cls w F [.sl (sv b40 1) 9 1 (([x33]).map SR), .sl (sv b34 1) 3 1 (([a1]).map I), .obj pb0 [p0_Seen, p0_Safe, p0_late, p0_texts, .int .i64 (max x2 (min a0_left (-1)))] 48, .sl p0_Seen 9 1 (l14.map SR), .sl p0_Safe 9 1 (a0_Safe.map SR), .sl p0_texts 9 1 (a0_texts.map SR)], Cls w F [.sl (sv b40 1) 9 1 (([x33]).map SR), .sl (sv b34 1) 3 1 (([a1]).map I), .obj pb0 [p0_Seen, p0_Safe, p0_late, p0_texts, .int .i64 (max x2 (min a0_left (-1)))] 48, .sl p0_Seen 9 1 (l14.map SR), .sl p0_Safe 9 1 (a0_Safe.map SR)]] (Cls w F [.sl (sv b40 1) 9 1 (([x33]).map SR), .sl (sv b34 1) 3 1 (([a1]).map I), .sl p0_Seen 9 1 (l14.map SR), .sl p0_Safe 9 1 (a0_Safe.map SR)])) 20 (by kernel_rfl) (Sc.stay (fun _ hw => hw.sel [1, 2, 3, 4, 5, 6] (by decide) rfl) (Sc.stay (fun _ hw => hw.sel [1, 2, 3, 4, 5] (by decide) rfl) (Sc.stay (fun _ hw => hw.sel [1, 2, 3, 4] (by decide) rfl) (Sc.stayD (fun _ hw => hw.sel [1, 2, 3] (by decide) rfl))))) (Sc.now (by kernel_rfl) (fun _ hw => hw)) ?_)
        refine V2.eff (i := 8) (by kernel_rfl) rfl ?_
        refine L.appM (i := 5) (g := I) (l := a0_late) (more := [a1]) h rfl Tryd.underlying46 eL3 rfl rfl rfl (fun w hw => As.at_ (hw.get (i := 1) rfl)) (plain_ints _) rfl ?_
        intro v41 l42 el42 h
        refine L.nil (E.toV2 (stC [[21, 24], [24]] [Cls w F [.sl v41 3 1 (l42.map I), .sl (sv b40 1) 9 1 (([x33]).map SR), .sl (sv b34 1) 3 1 (([a1]).map I), .obj pb0 [p0_Seen, p0_Safe, p0_late, p0_texts, .int .i64 (max x2 (min a0_left (-1)))] 48, .sl p0_Seen 9 1 (l14.map SR), .sl p0_Safe 9 1 (a0_Safe.map SR), .sl p0_texts 9 1 (a0_texts.map SR)], Cls w F [.sl v41 3 1 (l42.map I), .sl (sv b40 1) 9 1 (([x33]).map SR), .sl (sv b34 1) 3 1 (([a1]).map I), .obj pb0 [p0_Seen, p0_Safe, p0_late, p0_texts, .int .i64 (max x2 (min a0_left (-1)))] 48, .sl p0_Seen 9 1 (l14.map SR), .sl p0_Safe 9 1 (a0_Safe.map SR)]] (Cls w F [.sl v41 3 1 (l42.map I), .sl (sv b40 1) 9 1 (([x33]).map SR), .sl (sv b34 1) 3 1 (([a1]).map I), .sl p0_Seen 9 1 (l14.map SR), .sl p0_Safe 9 1 (a0_Safe.map SR)])) 8 (by kernel_rfl) (Sc.past rfl (Sc.stay (fun _ hw => hw.sel [1, 2, 3, 4, 5, 6] (by decide) rfl) (Sc.stay (fun _ hw => hw.sel [1, 2, 3, 4, 5] (by decide) rfl) (Sc.stayD (fun _ hw => hw.sel [1, 2, 3, 4] (by decide) rfl))))) (Sc.now (by kernel_rfl) (fun _ hw => hw)) ?_)
        refine V2.eff (i := 21) (by kernel_rfl) rfl ?_
        refine L.appM (i := 6) (g := SR) (l := a0_texts) (more := [x33]) h rfl Tryd.underlying30 eL9 rfl rfl rfl (fun w hw => As.at_ (hw.get (i := 1) rfl)) (plain_SR _) rfl ?_
        intro v43 l44 el44 h
        refine L.nil (E.toV2 (stC [[24]] [Cls w F [.sl v43 9 1 (l44.map SR), .sl v41 3 1 (l42.map I), .sl (sv b40 1) 9 1 (([x33]).map SR), .sl (sv b34 1) 3 1 (([a1]).map I), .obj pb0 [p0_Seen, p0_Safe, p0_late, p0_texts, .int .i64 (max x2 (min a0_left (-1)))] 48, .sl p0_Seen 9 1 (l14.map SR), .sl p0_Safe 9 1 (a0_Safe.map SR)]] (Cls w F [.sl v43 9 1 (l44.map SR), .sl v41 3 1 (l42.map I), .sl (sv b40 1) 9 1 (([x33]).map SR), .sl (sv b34 1) 3 1 (([a1]).map I), .sl p0_Seen 9 1 (l14.map SR), .sl p0_Safe 9 1 (a0_Safe.map SR)])) 21 (by kernel_rfl) (Sc.past rfl (Sc.stay (fun _ hw => hw.sel [1, 2, 3, 4, 5, 6] (by decide) rfl) (Sc.stayD (fun _ hw => hw.sel [1, 2, 3, 4, 5] (by decide) rfl)))) (Sc.now (by kernel_rfl) (fun _ hw => hw)) ?_)
        refine V2.nilc (i := 22) (Nx2.of (Z := Cls w F [.sl v43 9 1 (l44.map SR), .sl v41 3 1 (l42.map I), .sl (sv b40 1) 9 1 (([x33]).map SR), .sl (sv b34 1) 3 1 (([a1]).map I), .sl p0_Seen 9 1 (l14.map SR), .sl p0_Safe 9 1 (a0_Safe.map SR)]) [] (by kernel_rfl) rfl (Zc.on (fun _ hw => hw.sel [0, 1, 2, 3, 5, 6] (by decide) rfl) (Zc.fin (fun _ hw => hw)))) rfl rfl rfl ?_
        refine V2.y (i := 23) (Nx2.of (Z := Cls w F [.sl v43 9 1 (l44.map SR), .sl v41 3 1 (l42.map I), .sl (sv b40 1) 9 1 (([x33]).map SR), .sl (sv b34 1) 3 1 (([a1]).map I), .sl p0_Seen 9 1 (l14.map SR), .sl p0_Safe 9 1 (a0_Safe.map SR)]) [] (by kernel_rfl) rfl (Zc.on (fun _ hw => hw.sel [0, 1, 2, 3, 5, 6] (by decide) rfl) (Zc.fin (fun _ hw => hw)))) rfl rfl rfl (Y.fieldP fd48_2 rfl) ?_
        refine V2.eff (i := 24) (by kernel_rfl) rfl ?_
        refine L.storeV (i := 4) sz46 rfl rfl (fun _ hw => (As.at_ (hw.get (i := 1) rfl)).one) rfl (Nat.le_of_ble_eq_true rfl) ?_
        refine L.nil (E.toV2 (stC [] [] (Cls w F [.sl v43 9 1 (l44.map SR), .sl v41 3 1 (l42.map I), .sl (sv b40 1) 9 1 (([x33]).map SR), .sl (sv b34 1) 3 1 (([a1]).map I), .sl p0_Seen 9 1 (l14.map SR), .sl p0_Safe 9 1 (a0_Safe.map SR)])) 24 (by kernel_rfl) (Sc.past rfl (Sc.stayD (fun _ hw => hw))) (Sc.atD (fun _ hw => hw.sel [0, 1, 2, 3, 5, 6] (by decide) rfl)) ?_)
        refine V2.nilc (i := 25) (Nx2.of (Z := Cls w F [.sl v43 9 1 (l44.map SR), .sl v41 3 1 (l42.map I), .sl (sv b40 1) 9 1 (([x33]).map SR), .sl (sv b34 1) 3 1 (([a1]).map I), .sl p0_Seen 9 1 (l14.map SR), .sl p0_Safe 9 1 (a0_Safe.map SR)]) [] (by kernel_rfl) rfl (Zc.fin (fun _ hw => hw))) rfl rfl rfl ?_
        refine V2.y (i := 26) (Nx2.of (Z := Cls w F [.sl v43 9 1 (l44.map SR), .sl v41 3 1 (l42.map I), .sl (sv b40 1) 9 1 (([x33]).map SR), .sl (sv b34 1) 3 1 (([a1]).map I), .sl p0_Seen 9 1 (l14.map SR), .sl p0_Safe 9 1 (a0_Safe.map SR)]) [] (by kernel_rfl) rfl (Zc.fin (fun _ hw => hw))) rfl rfl rfl (Y.fieldP fd48_3 rfl) ?_
        refine V2.eff (i := 27) (by kernel_rfl) rfl ?_
        refine L.storeV (i := 4) sz30 rfl rfl (fun _ hw => (As.at_ (hw.get (i := 0) rfl)).one) rfl (Nat.le_of_ble_eq_true rfl) ?_
        refine L.nil (E.toV2 (stC [] [] (Cls w F [.sl v43 9 1 (l44.map SR), .sl v41 3 1 (l42.map I), .sl (sv b40 1) 9 1 (([x33]).map SR), .sl (sv b34 1) 3 1 (([a1]).map I), .sl p0_Seen 9 1 (l14.map SR), .sl p0_Safe 9 1 (a0_Safe.map SR)])) 27 (by kernel_rfl) (Sc.stayD (fun _ hw => hw)) (Sc.atD (fun _ hw => hw.sel [0, 1, 2, 3, 5, 6] (by decide) rfl)) ?_)
        refine V2.done (by kernel_rfl) ?_
        exact E.joinJ ⟨v41, l42, v43, l44, rfl, rfl, h⟩ trivial (fun _ hw => hw.sel [4, 5, 6, 1, 0] (by decide) rfl)
      ·
       refine L.litOne rfl Tryd.underlying30 eL9 rfl rfl ?_
       intro b45
       refine L.nil (E.toV2 (stC [[8, 21, 24], [21, 24], [24]] [Cls w F [.sl (sv b45 1) 9 1 (([x33]).map SR), .obj pb0 [p0_Seen, p0_Safe, p0_late, p0_texts, .int .i64 (max x2 (min a0_left (-1)))] 48, .sl p0_Seen 9 1 (l14.map SR), .sl p0_Safe 9 1 (a0_Safe.map SR), .sl p0_late 3 1 (a0_late.map I), .sl p0_texts 9 1 (a0_texts.map SR)], Cls w F [.sl (sv b45 1) 9 1 (([x33]).map SR), .obj pb0 [p0_Seen, p0_Safe, p0_late, p0_texts, .int .i64 (max x2 (min a0_left (-1)))] 48, .sl p0_Seen 9 1 (l14.map SR), .sl p0_Safe 9 1 (a0_Safe.map SR), .sl p0_texts 9 1 (a0_texts.map SR)], Cls w F [.sl (sv b45 1) 9 1 (([x33]).map SR), .obj pb0 [p0_Seen, p0_Safe, p0_late, p0_texts, .int .i64 (max x2 (min a0_left (-1)))] 48, .sl p0_Seen 9 1 (l14.map SR), .sl p0_Safe 9 1 (a0_Safe.map SR)]] (Cls w F [.sl (sv b45 1) 9 1 (([x33]).map SR), .sl p0_Seen 9 1 (l14.map SR), .sl p0_Safe 9 1 (a0_Safe.map SR)])) 20 (by kernel_rfl) (Sc.stay (fun _ hw => hw.sel [1, 2, 3, 4, 5] (by decide) rfl) (Sc.stay (fun _ hw => hw.sel [1, 2, 3, 4] (by decide) rfl) (Sc.stay (fun _ hw => hw.sel [1, 2, 3] (by decide) rfl) (Sc.stayD (fun _ hw => hw.sel [1, 2] (by decide) rfl))))) (Sc.now (by kernel_rfl) (fun _ hw => hw)) ?_)
       refine V2.eff (i := 7) (by kernel_rfl) rfl ?_
       refine L.litOne rfl Tryd.underlying46 eL3 rfl rfl ?_
       intro b46
       refine L.nil (E.toV2 (stC [[8, 21, 24], [21, 24], [24]] [Cls w F [.sl (sv b46 1) 3 1 (([a1]).map I), .sl (sv b45 1) 9 1 (([x33]).map SR), .obj pb0 [p0_Seen, p0_Safe, p0_late, p0_texts, .int .i64 (max x2 (min a0_left (-1)))] 48, .sl p0_Seen 9 1 (l14.map SR), .sl p0_Safe 9 1 (a0_Safe.map SR), .sl p0_late 3 1 (a0_late.map I), .sl p0_texts 9 1 (a0_texts.map SR)], Cls w F [.sl (sv b46 1) 3 1 (([a1]).map I), .sl (sv b45 1) 9 1 (([x33]).map SR), .obj pb0 [p0_Seen, p0_Safe, p0_late, p0_texts, .int .i64 (max x2 (min a0_left (-1)))] 48, .sl p0_Seen 9 1 (l14.map SR), .sl p0_Safe 9 1 (a0_Safe.map SR), .sl p0_texts 9 1 (a0_texts.map SR)], Cls w F [.sl (sv b46 1) 3 1 (([a1]).map I), .sl (sv b45 1) 9 1 (([x33]).map SR), .obj pb0 [p0_Seen, p0_Safe, p0_late, p0_texts, .int .i64 (max x2 (min a0_left (-1)))] 48, .sl p0_Seen 9 1 (l14.map SR), .sl p0_Safe 9 1 (a0_Safe.map SR)]] (Cls w F [.sl (sv b46 1) 3 1 (([a1]).map I), .sl (sv b45 1) 9 1 (([x33]).map SR), .sl p0_Seen 9 1 (l14.map SR), .sl p0_Safe 9 1 (a0_Safe.map SR)])) 7 (by kernel_rfl) (Sc.stay (fun _ hw => hw.sel [1, 2, 3, 4, 5, 6] (by decide) rfl) (Sc.stay (fun _ hw => hw.sel [1, 2, 3, 4, 5] (by decide) rfl) (Sc.stay (fun _ hw => hw.sel [1, 2, 3, 4] (by decide) rfl) (Sc.stayD (fun _ hw => hw.sel [1, 2, 3] (by decide) rfl))))) (Sc.now (by kernel_rfl) (fun _ hw => hw)) ?_)
       refine V2.eff (i := 8) (by kernel_rfl) rfl ?_
       refine L.appM (i := 5) (g := I) (l := a0_late) (more := [a1]) h rfl Tryd.underlying46 eL3 rfl rfl rfl (fun w hw => As.at_ (hw.get (i := 0) rfl)) (plain_ints _) rfl ?_
       intro v47 l48 el48 h
       refine L.nil (E.toV2 (stC [[21, 24], [24]] [Cls w F [.sl v47 3 1 (l48.map I), .sl (sv b46 1) 3 1 (([a1]).map I), .sl (sv b45 1) 9 1 (([x33]).map SR), .obj pb0 [p0_Seen, p0_Safe, p0_late, p0_texts, .int .i64 (max x2 (min a0_left (-1)))] 48, .sl p0_Seen 9 1 (l14.map SR), .sl p0_Safe 9 1 (a0_Safe.map SR), .sl p0_texts 9 1 (a0_texts.map SR)], Cls w F [.sl v47 3 1 (l48.map I), .sl (sv b46 1) 3 1 (([a1]).map I), .sl (sv b45 1) 9 1 (([x33]).map SR), .obj pb0 [p0_Seen, p0_Safe, p0_late, p0_texts, .int .i64 (max x2 (min a0_left (-1)))] 48, .sl p0_Seen 9 1 (l14.map SR), .sl p0_Safe 9 1 (a0_Safe.map SR)]] (Cls w F [.sl v47 3 1 (l48.map I), .sl (sv b46 1) 3 1 (([a1]).map I), .sl (sv b45 1) 9 1 (([x33]).map SR), .sl p0_Seen 9 1 (l14.map SR), .sl p0_Safe 9 1 (a0_Safe.map SR)])) 8 (by kernel_rfl) (Sc.past rfl (Sc.stay (fun _ hw => hw.sel [1, 2, 3, 4, 5, 6] (by decide) rfl) (Sc.stay (fun _ hw => hw.sel [1, 2, 3, 4, 5] (by decide) rfl) (Sc.stayD (fun _ hw => hw.sel [1, 2, 3, 4] (by decide) rfl))))) (Sc.now (by kernel_rfl) (fun _ hw => hw)) ?_)
       refine V2.eff (i := 21) (by kernel_rfl) rfl ?_
       refine L.appM (i := 6) (g := SR) (l := a0_texts) (more := [x33]) h rfl Tryd.underlying30 eL9 rfl rfl rfl (fun w hw => As.at_ (hw.get (i := 2) rfl)) (plain_SR _) rfl ?_
       intro v49 l50 el50 h
       refine L.nil (E.toV2 (stC [[24]] [Cls w F [.sl v49 9 1 (l50.map SR), .sl v47 3 1 (l48.map I), .sl (sv b46 1) 3 1 (([a1]).map I), .sl (sv b45 1) 9 1 (([x33]).map SR), .obj pb0 [p0_Seen, p0_Safe, p0_late, p0_texts, .int .i64 (max x2 (min a0_left (-1)))] 48, .sl p0_Seen 9 1 (l14.map SR), .sl p0_Safe 9 1 (a0_Safe.map SR)]] (Cls w F [.sl v49 9 1 (l50.map SR), .sl v47 3 1 (l48.map I), .sl (sv b46 1) 3 1 (([a1]).map I), .sl (sv b45 1) 9 1 (([x33]).map SR), .sl p0_Seen 9 1 (l14.map SR), .sl p0_Safe 9 1 (a0_Safe.map SR)])) 21 (by kernel_rfl) (Sc.past rfl (Sc.stay (fun _ hw => hw.sel [1, 2, 3, 4, 5, 6] (by decide) rfl) (Sc.stayD (fun _ hw => hw.sel [1, 2, 3, 4, 5] (by decide) rfl)))) (Sc.now (by kernel_rfl) (fun _ hw => hw)) ?_)
       refine V2.nilc (i := 22) (Nx2.of (Z := Cls w F [.sl v49 9 1 (l50.map SR), .sl v47 3 1 (l48.map I), .sl (sv b46 1) 3 1 (([a1]).map I), .sl (sv b45 1) 9 1 (([x33]).map SR), .sl p0_Seen 9 1 (l14.map SR), .sl p0_Safe 9 1 (a0_Safe.map SR)]) [] (by kernel_rfl) rfl (Zc.on (fun _ hw => hw.sel [0, 1, 2, 3, 5, 6] (by decide) rfl) (Zc.fin (fun _ hw => hw)))) rfl rfl rfl ?_
       refine V2.y (i := 23) (Nx2.of (Z := Cls w F [.sl v49 9 1 (l50.map SR), .sl v47 3 1 (l48.map I), .sl (sv b46 1) 3 1 (([a1]).map I), .sl (sv b45 1) 9 1 (([x33]).map SR), .sl p0_Seen 9 1 (l14.map SR), .sl p0_Safe 9 1 (a0_Safe.map SR)]) [] (by kernel_rfl) rfl (Zc.on (fun _ hw => hw.sel [0, 1, 2, 3, 5, 6] (by decide) rfl) (Zc.fin (fun _ hw => hw)))) rfl rfl rfl (Y.fieldP fd48_2 rfl) ?_
       refine V2.eff (i := 24) (by kernel_rfl) rfl ?_
       refine L.storeV (i := 4) sz46 rfl rfl (fun _ hw => (As.at_ (hw.get (i := 1) rfl)).one) rfl (Nat.le_of_ble_eq_true rfl) ?_
       refine L.nil (E.toV2 (stC [] [] (Cls w F [.sl v49 9 1 (l50.map SR), .sl v47 3 1 (l48.map I), .sl (sv b46 1) 3 1 (([a1]).map I), .sl (sv b45 1) 9 1 (([x33]).map SR), .sl p0_Seen 9 1 (l14.map SR), .sl p0_Safe 9 1 (a0_Safe.map SR)])) 24 (by kernel_rfl) (Sc.past rfl (Sc.stayD (fun _ hw => hw))) (Sc.atD (fun _ hw => hw.sel [0, 1, 2, 3, 5, 6] (by decide) rfl)) ?_)
       refine V2.nilc (i := 25) (Nx2.of (Z := Cls w F [.sl v49 9 1 (l50.map SR), .sl v47 3 1 (l48.map I), .sl (sv b46 1) 3 1 (([a1]).map I), .sl (sv b45 1) 9 1 (([x33]).map SR), .sl p0_Seen 9 1 (l14.map SR), .sl p0_Safe 9 1 (a0_Safe.map SR)]) [] (by kernel_rfl) rfl (Zc.fin (fun _ hw => hw))) rfl rfl rfl ?_
       refine V2.y (i := 26) (Nx2.of (Z := Cls w F [.sl v49 9 1 (l50.map SR), .sl v47 3 1 (l48.map I), .sl (sv b46 1) 3 1 (([a1]).map I), .sl (sv b45 1) 9 1 (([x33]).map SR), .sl p0_Seen 9 1 (l14.map SR), .sl p0_Safe 9 1 (a0_Safe.map SR)]) [] (by kernel_rfl) rfl (Zc.fin (fun _ hw => hw))) rfl rfl rfl (Y.fieldP fd48_3 rfl) ?_
       refine V2.eff (i := 27) (by kernel_rfl) rfl ?_
       refine L.storeV (i := 4) sz30 rfl rfl (fun _ hw => (As.at_ (hw.get (i := 0) rfl)).one) rfl (Nat.le_of_ble_eq_true rfl) ?_
       refine L.nil (E.toV2 (stC [] [] (Cls w F [.sl v49 9 1 (l50.map SR), .sl v47 3 1 (l48.map I), .sl (sv b46 1) 3 1 (([a1]).map I), .sl (sv b45 1) 9 1 (([x33]).map SR), .sl p0_Seen 9 1 (l14.map SR), .sl p0_Safe 9 1 (a0_Safe.map SR)])) 27 (by kernel_rfl) (Sc.stayD (fun _ hw => hw)) (Sc.atD (fun _ hw => hw.sel [0, 1, 2, 3, 5, 6] (by decide) rfl)) ?_)
       refine V2.done (by kernel_rfl) ?_
       exact E.joinJ ⟨v47, l48, v49, l50, rfl, rfl, h⟩ trivial (fun _ hw => hw.sel [4, 5, 6, 1, 0] (by decide) rfl)
     ·
      rintro _ _ ⟨gv1, gl2, gv3, gl4, rfl, rfl, h⟩
      rw [m36_quirref_Disk_Write_K4] at h
      refine W.seq (W.region (L.y rfl (Y.assign rfl) ?_))
      refine L.nil (E.thenN (W.ret (E.ret1 rfl rfl (fun w1 hw => ?_))))
      obtain rfl := Option.some.inj h
      exact ⟨_, _, rfl, ⟨_, _, _, rfl, rfl⟩, hw⟩
set_option maxRecDepth 100000 in
set_option maxHeartbeats 8000000 in
theorem w40_slices_Clone_string (a0 : (List (List UInt8))) (u0 : Value) (w : World) (r : (List (List UInt8))) (h : m40_slices_Clone_string a0 = some r) (hA0 : At w u0 1 (a0.map SR)) : Does Tryd.prog 40 [u0] w fun u m => ∃ v0, u = v0 ∧ m = [.sl v0 9 1 (r.map SR)] := by
  rw [m40_slices_Clone_string] at h
  rcases hA0.shape with ⟨rfl, hn⟩ | ⟨ad, cap, rfl, hl, hm⟩
  ·
   obtain rfl : a0 = [] := by simpa using hn
   replace h : some ([] : List (List UInt8)) = some r := by simpa [app] using h
   refine body (n := 8) Tryd.func40 rfl rfl rfl (Cls.refl w) ?_
   refine W.seq (W.region (L.y rfl (Y.assign rfl) ?_))
   refine L.nil (E.thenN (W.seq (W.seq (W.region (L.y rfl (Y.move rfl) ?_)))))
   refine L.y rfl (Y.eqlNil Tryd.underlying30 rfl rfl) ?_
   refine L.nil (E.thenN (W.condT rfl ?_))
   refine W.seq (W.region (L.y rfl (Y.assign rfl) ?_))
   refine L.nil (E.thenN (W.ret (E.thenR (E.ret1 rfl rfl (fun w1 hw => ?_)))))
   obtain rfl := Option.some.inj h
   exact ⟨_, _, rfl, ⟨_, rfl, rfl⟩, (hw.nilSl 9 1)⟩
  ·
   refine body (n := 8) Tryd.func40 rfl rfl rfl (Cls.refl w) ?_
   refine W.seq (W.region (L.y rfl (Y.assign rfl) ?_))
   refine L.nil (E.thenN (W.seq (W.seq (W.region (L.y rfl (Y.move rfl) ?_)))))
   refine L.y rfl (Y.eqlNil Tryd.underlying30 rfl rfl) ?_
   refine L.nil (E.thenN (W.condF rfl ?_))
   refine W.skip (E.thenN (W.seq (W.region (L.lit0 rfl Tryd.underlying30 eL9 ?_))))
   intro b1
   refine L.y rfl (Y.move rfl) ?_
   refine L.appM (i := 0) (g := SR) (l := []) (more := a0) h rfl Tryd.underlying30 eL9 rfl rfl rfl (fun w' hw => hA0.cls0 hw) (plain_SR _) rfl ?_
   intro v2 l3 el3 h
   refine L.y rfl (Y.assign rfl) ?_
   refine L.nil (E.thenN (W.ret (E.ret1 rfl rfl (fun w1 hw => ?_))))
   obtain rfl := Option.some.inj h
   exact ⟨_, _, rfl, ⟨_, rfl, rfl⟩, hw⟩
set_option maxRecDepth 100000 in
set_option maxHeartbeats 8000000 in
theorem w39_quirref_Disk_Flush (a0_Seen : (List (List UInt8))) (a0_Safe : (List (List UInt8))) (a0_late : (List Int)) (a0_texts : (List (List UInt8))) (a0_left : Int) (pb0 : Nat) (p0_Seen : Value) (p0_Safe : Value) (p0_late : Value) (p0_texts : Value) (w : World) (r : ((List (List UInt8)) × (List (List UInt8)) × (List Int) × (List (List UInt8)) × Int × Int)) (h : m39_quirref_Disk_Flush a0_Seen a0_Safe a0_late a0_texts a0_left = some r) (F : List Nat) (hc0 : Cls w F [.obj pb0 [p0_Seen, p0_Safe, p0_late, p0_texts, .int .i64 a0_left] 48, .sl p0_Seen 9 1 (a0_Seen.map SR), .sl p0_Safe 9 1 (a0_Safe.map SR), .sl p0_late 3 1 (a0_late.map I), .sl p0_texts 9 1 (a0_texts.map SR)] w) : DoesF Tryd.prog 39 [pt pb0 0] F w fun u m => ∃ y1 y2 y3 y4, u = .int .i64 r.2.2.2.2.2 ∧ m = [.obj pb0 [y1, y2, y3, y4, .int .i64 r.2.2.2.2.1] 48, .sl y1 9 1 (r.1.map SR), .sl y2 9 1 (r.2.1.map SR), .sl y3 3 1 (r.2.2.1.map I), .sl y4 9 1 (r.2.2.2.1.map SR)] := by
  rw [m39_quirref_Disk_Flush] at h
  refine body (n := 36) Tryd.func39 rfl rfl rfl hc0 ?_
  refine W.seq (W.region (L.y rfl (Y.assign rfl) ?_))
  refine L.nil (E.thenN (W.seqJ (fun gs D => gs = [(0, pt pb0 0)] ∧ D = Cls w F [.obj pb0 [p0_Seen, p0_Safe, p0_late, p0_texts, .int .i64 a0_left] 48, .sl p0_Seen 9 1 (a0_Seen.map SR), .sl p0_Safe 9 1 (a0_Safe.map SR), .sl p0_late 3 1 (a0_late.map I), .sl p0_texts 9 1 (a0_texts.map SR)] ∧ m39_quirref_Disk_Flush_K1 a0_left a0_Seen = some r) ?_ ?_))
  ·
   refine W.seq (W.region (L.y rfl (Y.move rfl) ?_))
   refine L.y rfl (Y.nilCheck rfl) ?_
   refine L.y rfl (Y.fieldP fd48_4 rfl) ?_
   refine L.y rfl (Y.loadP (i := 0) ag3 rfl rfl rfl) ?_
   refine L.ite h rfl (Y.eql rfl rfl) (fun c6 h => ?_) (fun c6 h => ?_)
   ·
    refine L.nil (E.thenN (W.condT rfl ?_))
    refine W.seq (W.region (L.y rfl (Y.assign rfl) ?_))
    refine L.nil (E.thenN (W.ret (E.KSR (E.ret1 rfl rfl (fun w1 hw => ?_)))))
    obtain rfl := Option.some.inj h
    exact ⟨_, _, rfl, ⟨_, _, _, _, rfl, rfl⟩, hw⟩
   ·
    refine L.nil (E.thenN (W.condF rfl ?_))
    exact W.skip (E.joinJ ⟨rfl, rfl, h⟩ ⟨rfl, trivial⟩ (fun _ hw => hw))
  ·
   rintro _ _ ⟨rfl, rfl, h⟩
   rw [m39_quirref_Disk_Flush_K1] at h
   refine W.seq (W.drawn2 (k := 15) (stC [[14]] [Cls w F [.obj pb0 [p0_Seen, p0_Safe, p0_late, p0_texts, .int .i64 a0_left] 48, .sl p0_Seen 9 1 (a0_Seen.map SR), .sl p0_Safe 9 1 (a0_Safe.map SR), .sl p0_late 3 1 (a0_late.map I), .sl p0_texts 9 1 (a0_texts.map SR)]] (Cls w F [.sl p0_Seen 9 1 (a0_Seen.map SR), .sl p0_Safe 9 1 (a0_Safe.map SR), .sl p0_late 3 1 (a0_late.map I), .sl p0_texts 9 1 (a0_texts.map SR)])) rfl mixed (fun _ hw => hw.drew) (Sc.now (by kernel_rfl) (fun _ hw => hw)) ?_)
   refine V2.y (i := 0) (Nx2.of (Z := Cls w F [.sl p0_Seen 9 1 (a0_Seen.map SR), .sl p0_Safe 9 1 (a0_Safe.map SR), .sl p0_late 3 1 (a0_late.map I), .sl p0_texts 9 1 (a0_texts.map SR)]) [] (by kernel_rfl) rfl (Zc.on (fun _ hw => hw.sel [1, 2, 3, 4] (by decide) rfl) (Zc.fin (fun _ hw => hw)))) rfl rfl rfl (Y.move rfl) ?_
   refine V2.y (i := 1) (Nx2.of (Z := Cls w F [.sl p0_Seen 9 1 (a0_Seen.map SR), .sl p0_Safe 9 1 (a0_Safe.map SR), .sl p0_late 3 1 (a0_late.map I), .sl p0_texts 9 1 (a0_texts.map SR)]) [] (by kernel_rfl) rfl (Zc.on (fun _ hw => hw.sel [1, 2, 3, 4] (by decide) rfl) (Zc.fin (fun _ hw => hw)))) rfl rfl rfl (Y.move rfl) ?_
   refine V2.nilc (i := 2) (Nx2.of (Z := Cls w F [.sl p0_Seen 9 1 (a0_Seen.map SR), .sl p0_Safe 9 1 (a0_Safe.map SR), .sl p0_late 3 1 (a0_late.map I), .sl p0_texts 9 1 (a0_texts.map SR)]) [] (by kernel_rfl) rfl (Zc.on (fun _ hw => hw.sel [1, 2, 3, 4] (by decide) rfl) (Zc.fin (fun _ hw => hw)))) rfl rfl rfl ?_
   refine V2.y (i := 3) (Nx2.of (Z := Cls w F [.sl p0_Seen 9 1 (a0_Seen.map SR), .sl p0_Safe 9 1 (a0_Safe.map SR), .sl p0_late 3 1 (a0_late.map I), .sl p0_texts 9 1 (a0_texts.map SR)]) [] (by kernel_rfl) rfl (Zc.on (fun _ hw => hw.sel [1, 2, 3, 4] (by decide) rfl) (Zc.fin (fun _ hw => hw)))) rfl rfl rfl (Y.fieldP fd48_4 rfl) ?_
   refine V2.y (i := 4) (Nx2.of (Z := Cls w F [.obj pb0 [p0_Seen, p0_Safe, p0_late, p0_texts, .int .i64 a0_left] 48, .sl p0_Seen 9 1 (a0_Seen.map SR), .sl p0_Safe 9 1 (a0_Safe.map SR), .sl p0_late 3 1 (a0_late.map I), .sl p0_texts 9 1 (a0_texts.map SR)]) [14] (by kernel_rfl) rfl (Zc.at1 (fun _ hw => hw))) rfl rfl rfl (Y.loadP (i := 0) ag3 rfl rfl rfl) ?_
   refine V2.m (i := 5) (V' := fun x2 => .int .i64 x2) h (Nx2.of (Z := Cls w F [.sl p0_Seen 9 1 (a0_Seen.map SR), .sl p0_Safe 9 1 (a0_Safe.map SR), .sl p0_late 3 1 (a0_late.map I), .sl p0_texts 9 1 (a0_texts.map SR)]) [] (by kernel_rfl) rfl (Zc.on (fun _ hw => hw.sel [1, 2, 3, 4] (by decide) rfl) (Zc.fin (fun _ hw => hw)))) rfl rfl rfl (Y.subM rfl rfl) (fun x2 ex2 h => ?_)
   refine V2.y (i := 6) (Nx2.of (Z := Cls w F [.sl p0_Seen 9 1 (a0_Seen.map SR), .sl p0_Safe 9 1 (a0_Safe.map SR), .sl p0_late 3 1 (a0_late.map I), .sl p0_texts 9 1 (a0_texts.map SR)]) [] (by kernel_rfl) rfl (Zc.on (fun _ hw => hw.sel [1, 2, 3, 4] (by decide) rfl) (Zc.fin (fun _ hw => hw)))) rfl rfl rfl (Y.move rfl) ?_
   refine V2.nilc (i := 7) (Nx2.of (Z := Cls w F [.sl p0_Seen 9 1 (a0_Seen.map SR), .sl p0_Safe 9 1 (a0_Safe.map SR), .sl p0_late 3 1 (a0_late.map I), .sl p0_texts 9 1 (a0_texts.map SR)]) [] (by kernel_rfl) rfl (Zc.on (fun _ hw => hw.sel [1, 2, 3, 4] (by decide) rfl) (Zc.fin (fun _ hw => hw)))) rfl rfl rfl ?_
   refine V2.y (i := 8) (Nx2.of (Z := Cls w F [.sl p0_Seen 9 1 (a0_Seen.map SR), .sl p0_Safe 9 1 (a0_Safe.map SR), .sl p0_late 3 1 (a0_late.map I), .sl p0_texts 9 1 (a0_texts.map SR)]) [] (by kernel_rfl) rfl (Zc.on (fun _ hw => hw.sel [1, 2, 3, 4] (by decide) rfl) (Zc.fin (fun _ hw => hw)))) rfl rfl rfl (Y.fieldP fd48_4 rfl) ?_
   refine V2.y (i := 9) (Nx2.of (Z := Cls w F [.obj pb0 [p0_Seen, p0_Safe, p0_late, p0_texts, .int .i64 a0_left] 48, .sl p0_Seen 9 1 (a0_Seen.map SR), .sl p0_Safe 9 1 (a0_Safe.map SR), .sl p0_late 3 1 (a0_late.map I), .sl p0_texts 9 1 (a0_texts.map SR)]) [14] (by kernel_rfl) rfl (Zc.at1 (fun _ hw => hw))) rfl rfl rfl (Y.loadP (i := 0) ag3 rfl rfl rfl) ?_
   refine V2.y (i := 10) (Nx2.of (Z := Cls w F [.sl p0_Seen 9 1 (a0_Seen.map SR), .sl p0_Safe 9 1 (a0_Safe.map SR), .sl p0_late 3 1 (a0_late.map I), .sl p0_texts 9 1 (a0_texts.map SR)]) [] (by kernel_rfl) rfl (Zc.on (fun _ hw => hw.sel [1, 2, 3, 4] (by decide) rfl) (Zc.fin (fun _ hw => hw)))) rfl rfl rfl (Y.min2 rfl rfl) ?_
   refine V2.y (i := 11) (Nx2.of (Z := Cls w F [.sl p0_Seen 9 1 (a0_Seen.map SR), .sl p0_Safe 9 1 (a0_Safe.map SR), .sl p0_late 3 1 (a0_late.map I), .sl p0_texts 9 1 (a0_texts.map SR)]) [] (by kernel_rfl) rfl (Zc.on (fun _ hw => hw.sel [1, 2, 3, 4] (by decide) rfl) (Zc.fin (fun _ hw => hw)))) rfl rfl rfl (Y.max2 rfl rfl) ?_
   refine V2.nilc (i := 12) (Nx2.of (Z := Cls w F [.sl p0_Seen 9 1 (a0_Seen.map SR), .sl p0_Safe 9 1 (a0_Safe.map SR), .sl p0_late 3 1 (a0_late.map I), .sl p0_texts 9 1 (a0_texts.map SR)]) [] (by kernel_rfl) rfl (Zc.on (fun _ hw => hw.sel [1, 2, 3, 4] (by decide) rfl) (Zc.fin (fun _ hw => hw)))) rfl rfl rfl ?_
   refine V2.y (i := 13) (Nx2.of (Z := Cls w F [.sl p0_Seen 9 1 (a0_Seen.map SR), .sl p0_Safe 9 1 (a0_Safe.map SR), .sl p0_late 3 1 (a0_late.map I), .sl p0_texts 9 1 (a0_texts.map SR)]) [] (by kernel_rfl) rfl (Zc.on (fun _ hw => hw.sel [1, 2, 3, 4] (by decide) rfl) (Zc.fin (fun _ hw => hw)))) rfl rfl rfl (Y.fieldP fd48_4 rfl) ?_
   refine V2.eff (i := 14) (by kernel_rfl) rfl ?_
   refine L.store (i := 0) (vs := [.int .i64 (max x2 (min a0_left (-1)))]) sz3 rfl rfl rfl rfl (by simp [Value.oneCell', Value.cells, st, pt, el]) rfl (Nat.le_of_ble_eq_true rfl) ?_
   refine L.nil (E.toV2 (stC [] [] (Cls w F [.sl p0_Seen 9 1 (a0_Seen.map SR), .sl p0_Safe 9 1 (a0_Safe.map SR), .sl p0_late 3 1 (a0_late.map I), .sl p0_texts 9 1 (a0_texts.map SR)])) 14 (by kernel_rfl) (Sc.past rfl (Sc.stayD (fun _ hw => hw))) (Sc.atD (fun _ hw => hw.sel [1, 2, 3, 4] (by decide) rfl)) ?_)
   refine V2.done (by kernel_rfl) ?_
   refine E.thenN (W.seq (W.region (L.y rfl (Y.move rfl) ?_)))
   refine L.y rfl (Y.move rfl) ?_
   refine L.y rfl (Y.nilCheck rfl) ?_
   refine L.y rfl (Y.fieldP fd48_0 rfl) ?_
   refine L.y rfl (Y.loadP (i := 0) ag30 rfl rfl rfl) ?_
   obtain ⟨l3, e5, h⟩ := bind1S h
   refine L.does rfl en40 rfl (fun w' hw => w40_slices_Clone_string a0_Seen p0_Seen w' _ e5 (As.at_ (hw.get (i := 1) rfl))) ?_
   rintro v4 _ ⟨_, rfl, rfl⟩
   refine L.y rfl (Y.nilCheck rfl) ?_
   refine L.y rfl (Y.fieldP fd48_1 rfl) ?_
   refine L.storeV (i := 1) sz30 rfl rfl (fun _ hw => (As.at_ (hw.get (i := 0) rfl)).one) rfl (Nat.le_of_ble_eq_true rfl) ?_
   refine L.nil (E.thenN (W.seq (W.region (L.y rfl (Y.move rfl) ?_))))
   refine L.y rfl (Y.move rfl) ?_
   refine L.y rfl (Y.nilCheck rfl) ?_
   refine L.y rfl (Y.fieldP fd48_2 rfl) ?_
   refine L.store (i := 1) (vs := [.slice none 0 0]) sz46 rfl rfl rfl rfl (by simp [Value.oneCell', Value.cells, st, pt, el]) rfl (Nat.le_of_ble_eq_true rfl) ?_
   refine L.y rfl (Y.nilCheck rfl) ?_
   refine L.y rfl (Y.fieldP fd48_3 rfl) ?_
   refine L.store (i := 1) (vs := [.slice none 0 0]) sz30 rfl rfl rfl rfl (by simp [Value.oneCell', Value.cells, st, pt, el]) rfl (Nat.le_of_ble_eq_true rfl) ?_
   refine L.nil (E.thenN (W.seq (W.region (L.y rfl (Y.assign rfl) ?_))))
   refine L.nil (E.thenN (W.ret (E.ret1 rfl rfl (fun w1 hw => ?_))))
   obtain rfl := Option.some.inj h
   exact ⟨_, _, rfl, ⟨_, _, _, _, rfl, rfl⟩, ((hw.nilSl 3 1).nilSl 9 1).sel [3, 4, 2, 1, 0] (by decide) rfl⟩
set_option maxRecDepth 100000 in
set_option maxHeartbeats 8000000 in
theorem w31_quirref_Log_raise (a0_d_Seen : (List (List UInt8))) (a0_d_Safe : (List (List UInt8))) (a0_d_late : (List Int)) (a0_d_texts : (List (List UInt8))) (a0_d_left : Int) (a0_from : Int) (a0_size : Int) (a0_epoch : Int) (a0_at : Int) (a0_seq : Int) (a0_fell : Bool) (pb0 : Nat) (pb0_d : Nat) (p0_d_Seen : Value) (p0_d_Safe : Value) (p0_d_late : Value) (p0_d_texts : Value) (w : World) (r : ((List (List UInt8)) × (List (List UInt8)) × (List Int) × (List (List UInt8)) × Int × Int × Bool × Int)) (h : m31_quirref_Log_raise a0_d_Seen a0_d_Safe a0_d_late a0_d_texts a0_d_left a0_from a0_size a0_epoch a0_at a0_seq a0_fell = some r) (F : List Nat) (hc0 : Cls w F [.obj pb0 [pt pb0_d 0, .int .i64 a0_from, .int .i64 a0_size, .int .i64 a0_epoch, .int .i64 a0_at, .int .i64 a0_seq, .bool a0_fell] 68, .obj pb0_d [p0_d_Seen, p0_d_Safe, p0_d_late, p0_d_texts, .int .i64 a0_d_left] 48, .sl p0_d_Seen 9 1 (a0_d_Seen.map SR), .sl p0_d_Safe 9 1 (a0_d_Safe.map SR), .sl p0_d_late 3 1 (a0_d_late.map I), .sl p0_d_texts 9 1 (a0_d_texts.map SR)] w) : DoesF Tryd.prog 31 [pt pb0 0] F w fun u m => ∃ y1 y2 y3 y4, u = .int .i64 r.2.2.2.2.2.2.2 ∧ m = [.obj pb0 [pt pb0_d 0, .int .i64 a0_from, .int .i64 a0_size, .int .i64 r.2.2.2.2.2.1, .int .i64 a0_at, .int .i64 a0_seq, .bool r.2.2.2.2.2.2.1] 68, .obj pb0_d [y1, y2, y3, y4, .int .i64 r.2.2.2.2.1] 48, .sl y1 9 1 (r.1.map SR), .sl y2 9 1 (r.2.1.map SR), .sl y3 3 1 (r.2.2.1.map I), .sl y4 9 1 (r.2.2.2.1.map SR)] := by
  rw [m31_quirref_Log_raise] at h
  refine body (n := 43) Tryd.func31 rfl rfl rfl hc0 ?_
  refine W.seq (W.region (L.y rfl (Y.assign rfl) ?_))
  refine L.nil (E.thenN (W.seqJ (fun gs D => gs = [(0, pt pb0 0)] ∧ D = Cls w F [.obj pb0 [pt pb0_d 0, .int .i64 a0_from, .int .i64 a0_size, .int .i64 a0_epoch, .int .i64 a0_at, .int .i64 a0_seq, .bool a0_fell] 68, .obj pb0_d [p0_d_Seen, p0_d_Safe, p0_d_late, p0_d_texts, .int .i64 a0_d_left] 48, .sl p0_d_Seen 9 1 (a0_d_Seen.map SR), .sl p0_d_Safe 9 1 (a0_d_Safe.map SR), .sl p0_d_late 3 1 (a0_d_late.map I), .sl p0_d_texts 9 1 (a0_d_texts.map SR)] ∧ m31_quirref_Log_raise_K1 a0_epoch a0_d_Seen a0_d_Safe a0_d_late a0_d_texts a0_d_left a0_from a0_fell = some r) ?_ ?_))
  ·
   refine W.seq (W.region (L.y rfl (Y.move rfl) ?_))
   refine L.y rfl (Y.nilCheck rfl) ?_
   refine L.y rfl (Y.fieldP fd68_3 rfl) ?_
   refine L.y rfl (Y.loadP (i := 0) ag3 rfl rfl rfl) ?_
   refine L.ite h rfl (Y.geq rfl rfl) (fun c76 h => ?_) (fun c76 h => ?_)
   ·
    refine L.nil (E.thenN (W.condT rfl ?_))
    refine W.seq (W.region (L.y rfl (Y.assign rfl) ?_))
    refine L.nil (E.thenN (W.ret (E.KSR (E.ret1 rfl rfl (fun w1 hw => ?_)))))
    obtain rfl := Option.some.inj h
    exact ⟨_, _, rfl, ⟨_, _, _, _, rfl, rfl⟩, hw⟩
   ·
    refine L.nil (E.thenN (W.condF rfl ?_))
    exact W.skip (E.joinJ ⟨rfl, rfl, h⟩ ⟨rfl, trivial⟩ (fun _ hw => hw))
  ·
   rintro _ _ ⟨rfl, rfl, h⟩
   rw [m31_quirref_Log_raise_K1] at h
   refine W.seq (W.drawn2 (k := 16) (stC [[14]] [Cls w F [.obj pb0 [pt pb0_d 0, .int .i64 a0_from, .int .i64 a0_size, .int .i64 a0_epoch, .int .i64 a0_at, .int .i64 a0_seq, .bool a0_fell] 68, .obj pb0_d [p0_d_Seen, p0_d_Safe, p0_d_late, p0_d_texts, .int .i64 a0_d_left] 48, .sl p0_d_Seen 9 1 (a0_d_Seen.map SR), .sl p0_d_Safe 9 1 (a0_d_Safe.map SR), .sl p0_d_late 3 1 (a0_d_late.map I), .sl p0_d_texts 9 1 (a0_d_texts.map SR)]] (Cls w F [.obj pb0 [pt pb0_d 0, .int .i64 a0_from, .int .i64 a0_size, .int .i64 a0_epoch, .int .i64 a0_at, .int .i64 a0_seq, .bool a0_fell] 68, .sl p0_d_Safe 9 1 (a0_d_Safe.map SR)])) rfl mixed (fun _ hw => hw.drew) (Sc.now (by kernel_rfl) (fun _ hw => hw)) ?_)
   refine V2.y (i := 0) (Nx2.of (Z := Cls w F [.obj pb0 [pt pb0_d 0, .int .i64 a0_from, .int .i64 a0_size, .int .i64 a0_epoch, .int .i64 a0_at, .int .i64 a0_seq, .bool a0_fell] 68, .sl p0_d_Safe 9 1 (a0_d_Safe.map SR)]) [] (by kernel_rfl) rfl (Zc.on (fun _ hw => hw.sel [0, 3] (by decide) rfl) (Zc.fin (fun _ hw => hw)))) rfl rfl rfl (Y.move rfl) ?_
   refine V2.nilc (i := 1) (Nx2.of (Z := Cls w F [.obj pb0 [pt pb0_d 0, .int .i64 a0_from, .int .i64 a0_size, .int .i64 a0_epoch, .int .i64 a0_at, .int .i64 a0_seq, .bool a0_fell] 68, .sl p0_d_Safe 9 1 (a0_d_Safe.map SR)]) [] (by kernel_rfl) rfl (Zc.on (fun _ hw => hw.sel [0, 3] (by decide) rfl) (Zc.fin (fun _ hw => hw)))) rfl rfl rfl ?_
   refine V2.y (i := 2) (Nx2.of (Z := Cls w F [.obj pb0 [pt pb0_d 0, .int .i64 a0_from, .int .i64 a0_size, .int .i64 a0_epoch, .int .i64 a0_at, .int .i64 a0_seq, .bool a0_fell] 68, .sl p0_d_Safe 9 1 (a0_d_Safe.map SR)]) [] (by kernel_rfl) rfl (Zc.on (fun _ hw => hw.sel [0, 3] (by decide) rfl) (Zc.fin (fun _ hw => hw)))) rfl rfl rfl (Y.fieldP fd68_0 rfl) ?_
   refine V2.y (i := 3) (Nx2.of (Z := Cls w F [.obj pb0 [pt pb0_d 0, .int .i64 a0_from, .int .i64 a0_size, .int .i64 a0_epoch, .int .i64 a0_at, .int .i64 a0_seq, .bool a0_fell] 68, .sl p0_d_Safe 9 1 (a0_d_Safe.map SR)]) [] (by kernel_rfl) rfl (Zc.on (fun _ hw => hw.sel [0, 3] (by decide) rfl) (Zc.fin (fun _ hw => hw)))) rfl rfl rfl (Y.loadP (i := 0) ag27 rfl rfl rfl) ?_
   refine V2.y (i := 4) (Nx2.of (Z := Cls w F [.obj pb0 [pt pb0_d 0, .int .i64 a0_from, .int .i64 a0_size, .int .i64 a0_epoch, .int .i64 a0_at, .int .i64 a0_seq, .bool a0_fell] 68, .sl p0_d_Safe 9 1 (a0_d_Safe.map SR)]) [] (by kernel_rfl) rfl (Zc.on (fun _ hw => hw.sel [0, 3] (by decide) rfl) (Zc.fin (fun _ hw => hw)))) rfl rfl rfl (Y.move rfl) ?_
   refine V2.nilc (i := 5) (Nx2.of (Z := Cls w F [.obj pb0 [pt pb0_d 0, .int .i64 a0_from, .int .i64 a0_size, .int .i64 a0_epoch, .int .i64 a0_at, .int .i64 a0_seq, .bool a0_fell] 68, .sl p0_d_Safe 9 1 (a0_d_Safe.map SR)]) [] (by kernel_rfl) rfl (Zc.on (fun _ hw => hw.sel [0, 3] (by decide) rfl) (Zc.fin (fun _ hw => hw)))) rfl rfl rfl ?_
   refine V2.y (i := 6) (Nx2.of (Z := Cls w F [.obj pb0 [pt pb0_d 0, .int .i64 a0_from, .int .i64 a0_size, .int .i64 a0_epoch, .int .i64 a0_at, .int .i64 a0_seq, .bool a0_fell] 68, .sl p0_d_Safe 9 1 (a0_d_Safe.map SR)]) [] (by kernel_rfl) rfl (Zc.on (fun _ hw => hw.sel [0, 3] (by decide) rfl) (Zc.fin (fun _ hw => hw)))) rfl rfl rfl (Y.fieldP fd68_1 rfl) ?_
   refine V2.y (i := 7) (Nx2.of (Z := Cls w F [.obj pb0 [pt pb0_d 0, .int .i64 a0_from, .int .i64 a0_size, .int .i64 a0_epoch, .int .i64 a0_at, .int .i64 a0_seq, .bool a0_fell] 68, .sl p0_d_Safe 9 1 (a0_d_Safe.map SR)]) [] (by kernel_rfl) rfl (Zc.on (fun _ hw => hw.sel [0, 3] (by decide) rfl) (Zc.fin (fun _ hw => hw)))) rfl rfl rfl (Y.loadP (i := 0) ag3 rfl rfl rfl) ?_
   refine V2.y (i := 8) (Nx2.of (Z := Cls w F [.obj pb0 [pt pb0_d 0, .int .i64 a0_from, .int .i64 a0_size, .int .i64 a0_epoch, .int .i64 a0_at, .int .i64 a0_seq, .bool a0_fell] 68, .sl p0_d_Safe 9 1 (a0_d_Safe.map SR)]) [] (by kernel_rfl) rfl (Zc.on (fun _ hw => hw.sel [0, 3] (by decide) rfl) (Zc.fin (fun _ hw => hw)))) rfl rfl rfl (Y.move rfl) ?_
   refine V2.nilc (i := 9) (Nx2.of (Z := Cls w F [.obj pb0 [pt pb0_d 0, .int .i64 a0_from, .int .i64 a0_size, .int .i64 a0_epoch, .int .i64 a0_at, .int .i64 a0_seq, .bool a0_fell] 68, .sl p0_d_Safe 9 1 (a0_d_Safe.map SR)]) [] (by kernel_rfl) rfl (Zc.on (fun _ hw => hw.sel [0, 3] (by decide) rfl) (Zc.fin (fun _ hw => hw)))) rfl rfl rfl ?_
   refine V2.y (i := 10) (Nx2.of (Z := Cls w F [.obj pb0 [pt pb0_d 0, .int .i64 a0_from, .int .i64 a0_size, .int .i64 a0_epoch, .int .i64 a0_at, .int .i64 a0_seq, .bool a0_fell] 68, .sl p0_d_Safe 9 1 (a0_d_Safe.map SR)]) [] (by kernel_rfl) rfl (Zc.on (fun _ hw => hw.sel [0, 3] (by decide) rfl) (Zc.fin (fun _ hw => hw)))) rfl rfl rfl (Y.fieldP fd68_3 rfl) ?_
   refine V2.y (i := 11) (Nx2.of (Z := Cls w F [.obj pb0 [pt pb0_d 0, .int .i64 a0_from, .int .i64 a0_size, .int .i64 a0_epoch, .int .i64 a0_at, .int .i64 a0_seq, .bool a0_fell] 68, .sl p0_d_Safe 9 1 (a0_d_Safe.map SR)]) [] (by kernel_rfl) rfl (Zc.on (fun _ hw => hw.sel [0, 3] (by decide) rfl) (Zc.fin (fun _ hw => hw)))) rfl rfl rfl (Y.loadP (i := 0) ag3 rfl rfl rfl) ?_
   refine V2.m (i := 12) (V' := fun x49 => .int .i64 x49) h (Nx2.of (Z := Cls w F [.obj pb0 [pt pb0_d 0, .int .i64 a0_from, .int .i64 a0_size, .int .i64 a0_epoch, .int .i64 a0_at, .int .i64 a0_seq, .bool a0_fell] 68, .sl p0_d_Safe 9 1 (a0_d_Safe.map SR)]) [] (by kernel_rfl) rfl (Zc.on (fun _ hw => hw.sel [0, 3] (by decide) rfl) (Zc.fin (fun _ hw => hw)))) rfl rfl rfl (Y.addM rfl rfl) (fun x49 ex49 h => ?_)
   refine V2.eff (i := 13) (by kernel_rfl) rfl ?_
   obtain ⟨s50, e51, h⟩ := bind1S h
   refine L.y rfl (Y.does en57 rfl (fun w' hw => (w57_quirref_anchorSector x49 w' _ e51).mono (fun _ _ h => h.1))) ?_
   refine L.nil (E.toV2 (stC [[14]] [Cls w F [.obj pb0 [pt pb0_d 0, .int .i64 a0_from, .int .i64 a0_size, .int .i64 a0_epoch, .int .i64 a0_at, .int .i64 a0_seq, .bool a0_fell] 68, .obj pb0_d [p0_d_Seen, p0_d_Safe, p0_d_late, p0_d_texts, .int .i64 a0_d_left] 48, .sl p0_d_Seen 9 1 (a0_d_Seen.map SR), .sl p0_d_Safe 9 1 (a0_d_Safe.map SR), .sl p0_d_late 3 1 (a0_d_late.map I), .sl p0_d_texts 9 1 (a0_d_texts.map SR)]] (Cls w F [.obj pb0 [pt pb0_d 0, .int .i64 a0_from, .int .i64 a0_size, .int .i64 a0_epoch, .int .i64 a0_at, .int .i64 a0_seq, .bool a0_fell] 68, .sl p0_d_Safe 9 1 (a0_d_Safe.map SR)])) 13 (by kernel_rfl) (Sc.stay (fun _ hw => hw) (Sc.stayD (fun _ hw => hw))) (Sc.now (by kernel_rfl) (fun _ hw => hw)) ?_)
   refine V2.eff (i := 14) (by kernel_rfl) rfl ?_
   refine L.to (D := Cls w F [.obj pb0_d [p0_d_Seen, p0_d_Safe, p0_d_late, p0_d_texts, .int .i64 a0_d_left] 48, .sl p0_d_Seen 9 1 (a0_d_Seen.map SR), .sl p0_d_Safe 9 1 (a0_d_Safe.map SR), .sl p0_d_late 3 1 (a0_d_late.map I), .sl p0_d_texts 9 1 (a0_d_texts.map SR), .obj pb0 [pt pb0_d 0, .int .i64 a0_from, .int .i64 a0_size, .int .i64 a0_epoch, .int .i64 a0_at, .int .i64 a0_seq, .bool a0_fell] 68]) (fun _ hw => hw.sel [1, 2, 3, 4, 5, 0] (by decide) rfl) ?_
   obtain ⟨l52, l53, l54, x55, x56, e57, h⟩ := bind5S h
   refine L.doesP (A := [.obj pb0_d [p0_d_Seen, p0_d_Safe, p0_d_late, p0_d_texts, .int .i64 a0_d_left] 48, .sl p0_d_Seen 9 1 (a0_d_Seen.map SR), .sl p0_d_Safe 9 1 (a0_d_Safe.map SR), .sl p0_d_late 3 1 (a0_d_late.map I), .sl p0_d_texts 9 1 (a0_d_texts.map SR)]) (M := [.obj pb0 [pt pb0_d 0, .int .i64 a0_from, .int .i64 a0_size, .int .i64 a0_epoch, .int .i64 a0_at, .int .i64 a0_seq, .bool a0_fell] 68]) rfl en36 rfl (fun w' hw => w36_quirref_Disk_Write a0_d_Seen a0_d_Safe a0_d_late a0_d_texts a0_d_left a0_from s50 pb0_d p0_d_Seen p0_d_Safe p0_d_late p0_d_texts w' _ e57 _ hw.lend) ?_
   rintro _ _ ⟨v58, v59, v60, rfl, rfl⟩
   refine L.to (D := Cls w F [.obj pb0_d [v58, p0_d_Safe, v59, v60, .int .i64 x55] 48, .sl v58 9 1 (l52.map SR), .sl p0_d_Safe 9 1 (a0_d_Safe.map SR), .sl v59 3 1 (l53.map I), .sl v60 9 1 (l54.map SR), .obj pb0 [pt pb0_d 0, .int .i64 a0_from, .int .i64 a0_size, .int .i64 a0_epoch, .int .i64 a0_at, .int .i64 a0_seq, .bool a0_fell] 68]) (fun _ hw => hw) ?_
   refine L.nil (E.toV2 (stC [] [] (Cls w F [.sl v58 9 1 (l52.map SR), .sl p0_d_Safe 9 1 (a0_d_Safe.map SR), .sl v59 3 1 (l53.map I), .sl v60 9 1 (l54.map SR), .obj pb0 [pt pb0_d 0, .int .i64 a0_from, .int .i64 a0_size, .int .i64 a0_epoch, .int .i64 a0_at, .int .i64 a0_seq, .bool a0_fell] 68])) 14 (by kernel_rfl) (Sc.past rfl (Sc.stayD (fun _ hw => hw.sel [4, 1] (by decide) rfl))) (Sc.atD (fun _ hw => hw.sel [1, 2, 3, 4, 5] (by decide) rfl)) ?_)
   refine V2.y (i := 15) (Nx2.of (Z := Cls w F [.sl v58 9 1 (l52.map SR), .sl p0_d_Safe 9 1 (a0_d_Safe.map SR), .sl v59 3 1 (l53.map I), .sl v60 9 1 (l54.map SR), .obj pb0 [pt pb0_d 0, .int .i64 a0_from, .int .i64 a0_size, .int .i64 a0_epoch, .int .i64 a0_at, .int .i64 a0_seq, .bool a0_fell] 68]) [] (by kernel_rfl) rfl (Zc.fin (fun _ hw => hw))) rfl rfl rfl (Y.assign rfl) ?_
   refine V2.done (by kernel_rfl) ?_
   refine E.thenN (W.seqJ (fun gs D => ∃ (gx1 : Int) (gv2 : Value) (gl3 : (List (List UInt8))) (gv4 : Value) (gl5 : (List (List UInt8))) (gv6 : Value) (gl7 : (List Int)) (gv8 : Value) (gl9 : (List (List UInt8))) (gx10 : Int), gs = [(0, pt pb0 0), (3, .int .i64 gx1)] ∧ D = Cls w F [.obj pb0_d [gv2, gv4, gv6, gv8, .int .i64 gx10] 48, .obj pb0 [pt pb0_d 0, .int .i64 a0_from, .int .i64 a0_size, .int .i64 a0_epoch, .int .i64 a0_at, .int .i64 a0_seq, .bool a0_fell] 68, .sl gv2 9 1 (gl3.map SR), .sl gv4 9 1 (gl5.map SR), .sl gv6 3 1 (gl7.map I), .sl gv8 9 1 (gl9.map SR)] ∧ m31_quirref_Log_raise_K2 a0_epoch a0_fell gx1 gl3 gl5 gl7 gl9 gx10 = some r) ?_ ?_)
   ·
    refine W.seq (W.region (L.y rfl (Y.move rfl) ?_))
    refine L.ite h rfl (Y.eql rfl rfl) (fun c64 h => ?_) (fun c64 h => ?_)
    ·
     refine L.nil (E.thenN (W.condT rfl ?_))
     refine W.region (L.y rfl (Y.move rfl) ?_)
     refine L.y rfl (Y.nilCheck rfl) ?_
     refine L.y rfl (Y.fieldP fd68_0 rfl) ?_
     refine L.y rfl (Y.loadP (i := 5) ag27 rfl rfl rfl) ?_
     obtain ⟨l65, l66, l67, l68, x69, x70, e71, h⟩ := bind6S h
     refine L.doesP (A := [.obj pb0_d [v58, p0_d_Safe, v59, v60, .int .i64 x55] 48, .sl v58 9 1 (l52.map SR), .sl p0_d_Safe 9 1 (a0_d_Safe.map SR), .sl v59 3 1 (l53.map I), .sl v60 9 1 (l54.map SR)]) (M := [.obj pb0 [pt pb0_d 0, .int .i64 a0_from, .int .i64 a0_size, .int .i64 a0_epoch, .int .i64 a0_at, .int .i64 a0_seq, .bool a0_fell] 68]) rfl en39 rfl (fun w' hw => w39_quirref_Disk_Flush l52 a0_d_Safe l53 l54 x55 pb0_d v58 p0_d_Safe v59 v60 w' _ e71 _ hw.lend) ?_
     rintro _ _ ⟨v72, v73, v74, v75, rfl, rfl⟩
     refine L.to (D := Cls w F [.obj pb0_d [v72, v73, v74, v75, .int .i64 x69] 48, .sl v72 9 1 (l65.map SR), .sl v73 9 1 (l66.map SR), .sl v74 3 1 (l67.map I), .sl v75 9 1 (l68.map SR), .obj pb0 [pt pb0_d 0, .int .i64 a0_from, .int .i64 a0_size, .int .i64 a0_epoch, .int .i64 a0_at, .int .i64 a0_seq, .bool a0_fell] 68]) (fun _ hw => hw) ?_
     refine L.y rfl (Y.assign rfl) ?_
     exact L.nil (E.joinJ ⟨x70, v72, l65, v73, l66, v74, l67, v75, l68, x69, rfl, rfl, h⟩ ⟨rfl, rfl, trivial⟩ (fun _ hw => hw.sel [0, 5, 1, 2, 3, 4] (by decide) rfl))
    ·
     refine L.nil (E.thenN (W.condF rfl ?_))
     exact W.skip (E.joinJ ⟨x56, v58, l52, p0_d_Safe, a0_d_Safe, v59, l53, v60, l54, x55, rfl, rfl, h⟩ ⟨rfl, rfl, trivial⟩ (fun _ hw => hw.sel [0, 5, 1, 2, 3, 4] (by decide) rfl))
   ·
    rintro _ _ ⟨gx1, gv2, gl3, gv4, gl5, gv6, gl7, gv8, gl9, gx10, rfl, rfl, h⟩
    rw [m31_quirref_Log_raise_K2] at h
    refine W.seqJ (fun gs D => ∃ (gx11 : Int), gs = [(0, pt pb0 0), (3, .int .i64 gx1)] ∧ D = Cls w F [.obj pb0_d [gv2, gv4, gv6, gv8, .int .i64 gx10] 48, .obj pb0 [pt pb0_d 0, .int .i64 a0_from, .int .i64 a0_size, .int .i64 gx11, .int .i64 a0_at, .int .i64 a0_seq, .bool a0_fell] 68, .sl gv2 9 1 (gl3.map SR), .sl gv4 9 1 (gl5.map SR), .sl gv6 3 1 (gl7.map I), .sl gv8 9 1 (gl9.map SR)] ∧ m31_quirref_Log_raise_K3 gx1 gl3 gl5 gl7 gl9 gx10 a0_fell gx11 = some r) ?_ ?_
    ·
     refine W.seq (W.region (L.y rfl (Y.move rfl) ?_))
     refine L.ite h rfl (Y.eql rfl rfl) (fun c62 h => ?_) (fun c62 h => ?_)
     ·
      refine L.nil (E.thenN (W.condT rfl ?_))
      refine W.region (L.y rfl (Y.move rfl) ?_)
      refine L.y rfl (Y.nilCheck rfl) ?_
      refine L.y rfl (Y.fieldP fd68_3 rfl) ?_
      refine L.y rfl (Y.loadP (i := 1) ag3 rfl rfl rfl) ?_
      refine L.m (V := fun x63 => .int .i64 x63) h rfl (Y.addM rfl rfl) (fun x63 ex63 h => ?_)
      refine L.y rfl (Y.nilCheck rfl) ?_
      refine L.y rfl (Y.fieldP fd68_3 rfl) ?_
      refine L.store (i := 1) (vs := [.int .i64 x63]) sz3 rfl rfl rfl rfl (by simp [Value.oneCell', Value.cells, st, pt, el]) rfl (Nat.le_of_ble_eq_true rfl) ?_
      exact L.nil (E.joinJ ⟨x63, rfl, rfl, h⟩ ⟨rfl, rfl, trivial⟩ (fun _ hw => hw))
     ·
      refine L.nil (E.thenN (W.condF rfl ?_))
      exact W.skip (E.joinJ ⟨a0_epoch, rfl, rfl, h⟩ ⟨rfl, rfl, trivial⟩ (fun _ hw => hw))
    ·
     rintro _ _ ⟨gx11, rfl, rfl, h⟩
     rw [m31_quirref_Log_raise_K3] at h
     refine W.seq (W.region (L.y rfl (Y.move rfl) ?_))
     refine L.y rfl (Y.move rfl) ?_
     refine L.callJ (fun v D => ∃ (gb12 : Bool), v = .int .i64 gx1 ∧ D = Cls w F [.obj pb0_d [gv2, gv4, gv6, gv8, .int .i64 gx10] 48, .obj pb0 [pt pb0_d 0, .int .i64 a0_from, .int .i64 a0_size, .int .i64 gx11, .int .i64 a0_at, .int .i64 a0_seq, .bool gb12] 68, .sl gv2 9 1 (gl3.map SR), .sl gv4 9 1 (gl5.map SR), .sl gv6 3 1 (gl7.map I), .sl gv8 9 1 (gl9.map SR)] ∧ m31_quirref_Log_raise_K4 gl3 gl5 gl7 gl9 gx10 gx11 gx1 gb12 = some r) rfl en37 rfl Tryd.func37 rfl rfl rfl ?_ ?_
     ·
      refine W.seq (W.region (L.y rfl (Y.assign rfl) ?_))
      refine L.nil (E.thenN (W.seq (W.seq (W.region (L.y rfl (Y.move rfl) ?_)))))
      refine L.ite h rfl (Y.neq rfl rfl) (fun c61 h => ?_) (fun c61 h => ?_)
      ·
       refine L.nil (E.thenN (W.condT rfl ?_))
       refine W.region (L.y rfl (Y.move rfl) ?_)
       refine L.y rfl (Y.nilCheck rfl) ?_
       refine L.y rfl (Y.fieldP fd68_6 rfl) ?_
       refine L.store (i := 1) (vs := [.bool true]) sz4 rfl rfl rfl rfl (by simp [Value.oneCell', Value.cells, st, pt, el]) rfl (Nat.le_of_ble_eq_true rfl) ?_
       refine L.nil (E.thenN (W.seq (W.region (L.y rfl (Y.move rfl) ?_))))
       refine L.y rfl (Y.assign rfl) ?_
       refine L.nil (E.thenN (W.ret (E.ret1 rfl rfl (fun w1 hw => ?_))))
       exact ⟨_, _, rfl, ⟨true, rfl, rfl, h⟩, hw⟩
      ·
       refine L.nil (E.thenN (W.condF rfl ?_))
       refine W.skip (E.thenN (W.seq (W.region (L.y rfl (Y.move rfl) ?_))))
       refine L.y rfl (Y.assign rfl) ?_
       refine L.nil (E.thenN (W.ret (E.ret1 rfl rfl (fun w1 hw => ?_))))
       exact ⟨_, _, rfl, ⟨a0_fell, rfl, rfl, h⟩, hw⟩
     ·
      rintro _ _ ⟨gb12, rfl, rfl, h⟩
      rw [m31_quirref_Log_raise_K4] at h
      refine L.y rfl (Y.assign rfl) ?_
      refine L.nil (E.thenN (W.ret (E.ret1 rfl rfl (fun w1 hw => ?_))))
      obtain rfl := Option.some.inj h
      exact ⟨_, _, rfl, ⟨_, _, _, _, rfl, rfl⟩, hw.sel [1, 0, 2, 3, 4, 5] (by decide) rfl⟩
set_option maxRecDepth 100000 in
set_option maxHeartbeats 8000000 in
theorem w7_quirref_OpenLog (a0_Seen : (List (List UInt8))) (a0_Safe : (List (List UInt8))) (a0_late : (List Int)) (a0_texts : (List (List UInt8))) (a0_left : Int) (a1 : Int) (a2 : Int) (pb0 : Nat) (p0_Seen : Value) (p0_Safe : Value) (p0_late : Value) (p0_texts : Value) (w : World) (r : (((List (List UInt8)) × (List (List UInt8)) × (List Int) × (List (List UInt8)) × Int × (List (List UInt8)) × Int) ⊕ ((List (List UInt8)) × (List (List UInt8)) × (List Int) × (List (List UInt8)) × Int × (List (List UInt8)) × Int × Int × Int × Int × Int × Int × Bool))) (h : m7_quirref_OpenLog a0_Seen a0_Safe a0_late a0_texts a0_left a1 a2 = some r) (F : List Nat) (hc0 : Cls w F [.obj pb0 [p0_Seen, p0_Safe, p0_late, p0_texts, .int .i64 a0_left] 48, .sl p0_Seen 9 1 (a0_Seen.map SR), .sl p0_Safe 9 1 (a0_Safe.map SR), .sl p0_late 3 1 (a0_late.map I), .sl p0_texts 9 1 (a0_texts.map SR)] w) : DoesF Tryd.prog 7 [pt pb0 0, .int .i64 a1, .int .i64 a2] F w fun u m => match r with | .inl r0 => ∃ y1 y2 y3 y4 y6, u = .tuple #[.pointer none, y6, .int .i64 r0.2.2.2.2.2.2] ∧ m = [.obj pb0 [y1, y2, y3, y4, .int .i64 r0.2.2.2.2.1] 48, .sl y1 9 1 (r0.1.map SR), .sl y2 9 1 (r0.2.1.map SR), .sl y3 3 1 (r0.2.2.1.map I), .sl y4 9 1 (r0.2.2.2.1.map SR), .sl y6 9 1 (r0.2.2.2.2.2.1.map SR)] | .inr r1 => ∃ y1 y2 y3 y4 y6 nb, u = .tuple #[pt nb 0, y6, .int .i64 r1.2.2.2.2.2.2.1] ∧ m = [.obj nb [pt pb0 0, .int .i64 r1.2.2.2.2.2.2.2.1, .int .i64 r1.2.2.2.2.2.2.2.2.1, .int .i64 r1.2.2.2.2.2.2.2.2.2.1, .int .i64 r1.2.2.2.2.2.2.2.2.2.2.1, .int .i64 r1.2.2.2.2.2.2.2.2.2.2.2.1, .bool r1.2.2.2.2.2.2.2.2.2.2.2.2] 68, .obj pb0 [y1, y2, y3, y4, .int .i64 r1.2.2.2.2.1] 48, .sl y1 9 1 (r1.1.map SR), .sl y2 9 1 (r1.2.1.map SR), .sl y3 3 1 (r1.2.2.1.map I), .sl y4 9 1 (r1.2.2.2.1.map SR), .sl y6 9 1 (r1.2.2.2.2.2.1.map SR)] := by
  rw [m7_quirref_OpenLog] at h
  refine body (n := 127) Tryd.func7 rfl rfl rfl hc0 ?_
  refine W.seq (W.region (L.y rfl (Y.assign rfl) ?_))
  refine L.y rfl (Y.assign rfl) ?_
  refine L.y rfl (Y.assign rfl) ?_
  refine L.nil (E.thenN (W.seqJ (fun gs D => gs = [(0, pt pb0 0), (1, .int .i64 a1), (2, .int .i64 a2)] ∧ D = Cls w F [.obj pb0 [p0_Seen, p0_Safe, p0_late, p0_texts, .int .i64 a0_left] 48, .sl p0_Seen 9 1 (a0_Seen.map SR), .sl p0_Safe 9 1 (a0_Safe.map SR), .sl p0_late 3 1 (a0_late.map I), .sl p0_texts 9 1 (a0_texts.map SR)] ∧ m7_quirref_OpenLog_K1 a0_left a0_Seen a0_Safe a0_late a0_texts a1 a2 = some r) ?_ ?_))
  ·
   refine W.seq (W.region (L.cutJ 6 (fun gs D => ∃ (gb11 : Bool), gs = [(0, pt pb0 0), (1, .int .i64 a1), (2, .int .i64 a2), (22, .bool gb11)] ∧ D = Cls w F [.obj pb0 [p0_Seen, p0_Safe, p0_late, p0_texts, .int .i64 a0_left] 48, .sl p0_Seen 9 1 (a0_Seen.map SR), .sl p0_Safe 9 1 (a0_Safe.map SR), .sl p0_late 3 1 (a0_late.map I), .sl p0_texts 9 1 (a0_texts.map SR)] ∧ m7_quirref_OpenLog_K7 a0_Seen a0_Safe a0_late a0_texts a0_left a1 a2 gb11 = some r) ?_ ?_))
   ·
    refine L.y rfl (Y.move rfl) ?_
    refine L.ite h rfl (Y.lss rfl rfl) (fun c40 h => ?_) (fun c40 h => ?_)
    ·
     refine L.y rfl (Y.move rfl) ?_
     refine L.pass rfl rfl (by nofun) ?_
     refine L.pass rfl rfl (by nofun) ?_
     refine L.y rfl (Y.pickT rfl rfl) ?_
     exact L.nil (E.joinJ ⟨true, rfl, rfl, h⟩ ⟨rfl, rfl, rfl, rfl, trivial⟩ (fun _ hw => hw))
    ·
     refine L.y rfl (Y.move rfl) ?_
     refine L.take rfl (L.y rfl (Y.move rfl) ?_)
     refine L.take rfl (L.ite h rfl (Y.lss rfl rfl) (fun c41 h => ?_) (fun c41 h => ?_))
     ·
      refine L.y rfl (Y.pickF rfl rfl) ?_
      exact L.nil (E.joinJ ⟨true, rfl, rfl, h⟩ ⟨rfl, rfl, rfl, rfl, trivial⟩ (fun _ hw => hw))
     ·
      refine L.y rfl (Y.pickF rfl rfl) ?_
      exact L.nil (E.joinJ ⟨false, rfl, rfl, h⟩ ⟨rfl, rfl, rfl, rfl, trivial⟩ (fun _ hw => hw))
   ·
    rintro _ _ ⟨gb11, rfl, rfl, h⟩
    rw [m7_quirref_OpenLog_K7] at h
    rcases gb11 with _ | _
    ·
     replace h := iteF h
     refine L.y rfl (Y.move rfl) ?_
     refine L.take rfl (L.y rfl (Y.move rfl) ?_)
     refine L.take rfl (L.y rfl (Y.move rfl) ?_)
     refine L.take rfl (L.y rfl (Y.nilCheck rfl) ?_)
     refine L.take rfl (L.y rfl (Y.fieldP fd48_0 rfl) ?_)
     refine L.take rfl (L.y rfl (Y.loadP (i := 0) ag30 rfl rfl rfl) ?_)
     refine L.take rfl (L.y rfl (Y.lenM (g := SR) (l := a0_Seen) Tryd.underlying30 rfl (fun w hw => As.at_ (hw.get (i := 1) rfl))) ?_)
     refine L.take rfl (L.ite h rfl (Y.gtr rfl rfl) (fun c37 h => ?_) (fun c37 h => ?_))
     ·
      refine L.y rfl (Y.pickF rfl rfl) ?_
      refine L.y rfl (Y.move rfl) ?_
      refine L.pass rfl rfl (by nofun) ?_
      refine L.pass rfl rfl (by nofun) ?_
      refine L.pass rfl rfl (by nofun) ?_
      refine L.pass rfl rfl (by nofun) ?_
      refine L.pass rfl rfl (by nofun) ?_
      refine L.pass rfl rfl (by nofun) ?_
      refine L.pass rfl rfl (by nofun) ?_
      refine L.pass rfl rfl (by nofun) ?_
      refine L.pass rfl rfl (by nofun) ?_
      refine L.y rfl (Y.pickT rfl rfl) ?_
      refine L.nil (E.thenN (W.condT rfl ?_))
      refine W.seq (W.region (L.y rfl (Y.assign rfl) ?_))
      refine L.y rfl (Y.assign rfl) ?_
      refine L.y rfl (Y.assign rfl) ?_
      refine L.nil (E.thenN (W.ret (E.KSR (E.ret3 rfl rfl rfl rfl (fun w1 hw => ?_)))))
      obtain rfl := Option.some.inj h
      exact ⟨_, _, rfl, ⟨_, _, _, _, _, rfl, rfl⟩, (hw.nilSl 9 1).sel [1, 2, 3, 4, 5, 0] (by decide) rfl⟩
     ·
      refine L.y rfl (Y.pickF rfl rfl) ?_
      refine L.y rfl (Y.move rfl) ?_
      refine L.take rfl (L.y rfl (Y.move rfl) ?_)
      refine L.take rfl (L.y rfl (Y.move rfl) ?_)
      refine L.take rfl (L.y rfl (Y.nilCheck rfl) ?_)
      refine L.take rfl (L.y rfl (Y.fieldP fd48_0 rfl) ?_)
      refine L.take rfl (L.y rfl (Y.loadP (i := 0) ag30 rfl rfl rfl) ?_)
      refine L.take rfl (L.y rfl (Y.lenM (g := SR) (l := a0_Seen) Tryd.underlying30 rfl (fun w hw => As.at_ (hw.get (i := 1) rfl))) ?_)
      refine L.take rfl (L.y rfl (Y.move rfl) ?_)
      refine L.take rfl (L.m (V := fun x38 => .int .i64 x38) h rfl (Y.subM rfl rfl) (fun x38 ex38 h => ?_))
      refine L.take rfl (L.ite h rfl (Y.gtr rfl rfl) (fun c39 h => ?_) (fun c39 h => ?_))
      ·
       refine L.y rfl (Y.pickF rfl rfl) ?_
       refine L.nil (E.thenN (W.condT rfl ?_))
       refine W.seq (W.region (L.y rfl (Y.assign rfl) ?_))
       refine L.y rfl (Y.assign rfl) ?_
       refine L.y rfl (Y.assign rfl) ?_
       refine L.nil (E.thenN (W.ret (E.KSR (E.ret3 rfl rfl rfl rfl (fun w1 hw => ?_)))))
       obtain rfl := Option.some.inj h
       exact ⟨_, _, rfl, ⟨_, _, _, _, _, rfl, rfl⟩, (hw.nilSl 9 1).sel [1, 2, 3, 4, 5, 0] (by decide) rfl⟩
      ·
       refine L.y rfl (Y.pickF rfl rfl) ?_
       refine L.nil (E.thenN (W.condF rfl ?_))
       exact W.skip (E.joinJ ⟨rfl, rfl, h⟩ ⟨rfl, rfl, rfl, trivial⟩ (fun _ hw => hw))
    ·
     replace h := iteT h
     refine L.y rfl (Y.move rfl) ?_
     refine L.pass rfl rfl (by nofun) ?_
     refine L.pass rfl rfl (by nofun) ?_
     refine L.pass rfl rfl (by nofun) ?_
     refine L.pass rfl rfl (by nofun) ?_
     refine L.pass rfl rfl (by nofun) ?_
     refine L.pass rfl rfl (by nofun) ?_
     refine L.pass rfl rfl (by nofun) ?_
     refine L.y rfl (Y.pickT rfl rfl) ?_
     refine L.y rfl (Y.move rfl) ?_
     refine L.pass rfl rfl (by nofun) ?_
     refine L.pass rfl rfl (by nofun) ?_
     refine L.pass rfl rfl (by nofun) ?_
     refine L.pass rfl rfl (by nofun) ?_
     refine L.pass rfl rfl (by nofun) ?_
     refine L.pass rfl rfl (by nofun) ?_
     refine L.pass rfl rfl (by nofun) ?_
     refine L.pass rfl rfl (by nofun) ?_
     refine L.pass rfl rfl (by nofun) ?_
     refine L.y rfl (Y.pickT rfl rfl) ?_
     refine L.nil (E.thenN (W.condT rfl ?_))
     refine W.seq (W.region (L.y rfl (Y.assign rfl) ?_))
     refine L.y rfl (Y.assign rfl) ?_
     refine L.y rfl (Y.assign rfl) ?_
     refine L.nil (E.thenN (W.ret (E.KSR (E.ret3 rfl rfl rfl rfl (fun w1 hw => ?_)))))
     obtain rfl := Option.some.inj h
     exact ⟨_, _, rfl, ⟨_, _, _, _, _, rfl, rfl⟩, (hw.nilSl 9 1).sel [1, 2, 3, 4, 5, 0] (by decide) rfl⟩
  ·
   rintro _ _ ⟨rfl, rfl, h⟩
   rw [m7_quirref_OpenLog_K1] at h
   refine W.seq (W.seq (W.region (L.y rfl (Y.move rfl) ?_)))
   refine L.callJ (fun v D => v = .bool (decide (a0_left = 0)) ∧ D = Cls w F [.obj pb0 [p0_Seen, p0_Safe, p0_late, p0_texts, .int .i64 a0_left] 48, .sl p0_Seen 9 1 (a0_Seen.map SR), .sl p0_Safe 9 1 (a0_Safe.map SR), .sl p0_late 3 1 (a0_late.map I), .sl p0_texts 9 1 (a0_texts.map SR)] ∧ m7_quirref_OpenLog_K2 a0_left a0_Seen a0_Safe a0_late a0_texts a1 a2 = some r) rfl en28 rfl Tryd.func28 rfl rfl rfl ?_ ?_
   ·
    refine W.seq (W.region (L.y rfl (Y.assign rfl) ?_))
    refine L.nil (E.thenN (W.seq (W.region (L.y rfl (Y.move rfl) ?_))))
    refine L.y rfl (Y.nilCheck rfl) ?_
    refine L.y rfl (Y.fieldP fd48_4 rfl) ?_
    refine L.y rfl (Y.loadP (i := 0) ag3 rfl rfl rfl) ?_
    refine L.y rfl (Y.eql rfl rfl) ?_
    refine L.y rfl (Y.assign rfl) ?_
    refine L.nil (E.thenN (W.ret (E.ret1 rfl rfl (fun w1 hw => ?_))))
    exact ⟨_, _, rfl, ⟨rfl, rfl, h⟩, hw⟩
   ·
    rintro _ _ ⟨rfl, rfl, h⟩
    rw [m7_quirref_OpenLog_K2] at h
    refine L.nil (E.thenN (W.caseB (q := 44) h rfl (fun h => ?_) (fun h => ?_)))
    ·
     refine W.condT rfl ?_
     refine W.seq (W.region (L.y rfl (Y.assign rfl) ?_))
     refine L.y rfl (Y.assign rfl) ?_
     refine L.y rfl (Y.assign rfl) ?_
     refine L.nil (E.thenN (W.ret (E.thenR (E.ret3 rfl rfl rfl rfl (fun w1 hw => ?_)))))
     obtain rfl := Option.some.inj h
     exact ⟨_, _, rfl, ⟨_, _, _, _, _, rfl, rfl⟩, (hw.nilSl 9 1).sel [1, 2, 3, 4, 5, 0] (by decide) rfl⟩
    ·
     refine W.condF rfl ?_
     refine W.skip (E.thenN (W.seq (W.region (L.y rfl (Y.move rfl) ?_))))
     refine L.y rfl (Y.nilCheck rfl) ?_
     refine L.y rfl (Y.fieldP fd48_0 rfl) ?_
     refine L.y rfl (Y.loadP (i := 0) ag30 rfl rfl rfl) ?_
     refine L.y rfl (Y.move rfl) ?_
     refine L.y rfl (Y.move rfl) ?_
     refine L.y rfl (Y.move rfl) ?_
     refine L.m (V := fun x1 => .int .i64 x1) h rfl (Y.addM rfl rfl) (fun x1 ex1 h => ?_)
     refine L.m (V := fun _ => dropv (cutv p0_Seen x1.toNat) a1.toNat 1) h rfl (Y.midM (g := SR) Tryd.underlying30 sz9 rfl rfl rfl (fun w hw => As.at_ (hw.get (i := 1) rfl))) (fun l2 el2 h => ?_)
     refine L.y rfl (Y.assign rfl) ?_
     refine L.nil (E.thenN (W.seq (W.region (L.y rfl (Y.move rfl) ?_))))
     refine L.y rfl (Y.move rfl) ?_
     refine L.y rfl (Y.move rfl) ?_
     refine L.y rfl (Y.move rfl) ?_
     refine L.m (V := fun _ => el (dropv (cutv p0_Seen x1.toNat) a1.toNat 1) ((0 : Int).toNat * 1)) h rfl (Y.indexM (g := SR) (l := l2) Tryd.underlying30 sz9 rfl rfl (fun w hw => ((As.at_ (hw.get (i := 1) rfl)).midM el2))) (fun x3 ex3 h => ?_)
     refine L.y rfl (Y.loadE1 (u := st x3) ag9 rfl (fun w hw => ((As.at_ (hw.get (i := 1) rfl)).midM el2)) (idx_map ex3)) ?_
     obtain ⟨x4, e5, h⟩ := bind1S h
     refine L.y rfl (Y.does en29 rfl (fun w' hw => (w29_quirref_anchored x3 w' _ e5).mono (fun _ _ h => h.1))) ?_
     refine L.y rfl (Y.build (cells := #[pt pb0 0, .int .i64 a1, .int .i64 a2, .int .i64 x4, .int .i64 1, .int .i64 0, .bool false]) rfl (by kernel_rfl)) ?_
     refine L.box rfl rfl ?_
     intro b6
     refine L.y rfl (Y.assign rfl) ?_
     refine L.nil (E.thenN (W.seqJ (fun gs D => gs = [(9, dropv (cutv p0_Seen x1.toNat) a1.toNat 1), (10, pt b6 0)] ∧ D = Cls w F [.obj b6 [pt pb0 0, .int .i64 a1, .int .i64 a2, .int .i64 x4, .int .i64 1, .int .i64 0, .bool false] 68, .obj pb0 [p0_Seen, p0_Safe, p0_late, p0_texts, .int .i64 a0_left] 48, .sl p0_Seen 9 1 (a0_Seen.map SR), .sl p0_Safe 9 1 (a0_Safe.map SR), .sl p0_late 3 1 (a0_late.map I), .sl p0_texts 9 1 (a0_texts.map SR)] ∧ m7_quirref_OpenLog_K3 l2 a0_Seen a0_Safe a0_late a0_texts a0_left a1 a2 x4 = some r) ?_ ?_))
     ·
      refine W.seq (W.region (L.y rfl (Y.move rfl) ?_))
      refine L.y rfl (Y.nilCheck rfl) ?_
      refine L.y rfl (Y.fieldP fd68_3 rfl) ?_
      refine L.y rfl (Y.loadP (i := 0) ag3 rfl rfl rfl) ?_
      refine L.ite h rfl (Y.lss rfl rfl) (fun c36 h => ?_) (fun c36 h => ?_)
      ·
       refine L.nil (E.thenN (W.condT rfl ?_))
       refine W.seq (W.region (L.y rfl (Y.assign rfl) ?_))
       refine L.y rfl (Y.assign rfl) ?_
       refine L.y rfl (Y.assign rfl) ?_
       refine L.nil (E.thenN (W.ret (E.KSR (E.ret3 rfl rfl rfl rfl (fun w1 hw => ?_)))))
       obtain rfl := Option.some.inj h
       exact ⟨_, _, rfl, ⟨_, _, _, _, _, rfl, rfl⟩, (hw.nilSl 9 1).sel [2, 3, 4, 5, 6, 0] (by decide) rfl⟩
      ·
       refine L.nil (E.thenN (W.condF rfl ?_))
       exact W.skip (E.joinJ ⟨rfl, rfl, h⟩ ⟨rfl, rfl, trivial⟩ (fun _ hw => hw))
     ·
      rintro _ _ ⟨rfl, rfl, h⟩
      rw [m7_quirref_OpenLog_K3] at h
      refine W.seq (W.region (L.y rfl (Y.assign rfl) ?_))
      refine L.nil (E.thenN (W.seq (W.region (L.y rfl (Y.assign rfl) ?_))))
      refine L.nil (E.thenN (W.seqJ (fun gs D => ∃ (gv1 : Value) (gl2 : (List (List UInt8))) (gx3 : Int) (gx4 : Int), gs = [(10, pt b6 0), (11, gv1)] ∧ D = Cls w F [.obj b6 [pt pb0 0, .int .i64 a1, .int .i64 a2, .int .i64 x4, .int .i64 gx3, .int .i64 gx4, .bool false] 68, .obj pb0 [p0_Seen, p0_Safe, p0_late, p0_texts, .int .i64 a0_left] 48, .sl gv1 9 1 (gl2.map SR), .sl p0_Seen 9 1 (a0_Seen.map SR), .sl p0_Safe 9 1 (a0_Safe.map SR), .sl p0_late 3 1 (a0_late.map I), .sl p0_texts 9 1 (a0_texts.map SR)] ∧ m7_quirref_OpenLog_K4 a0_Seen a0_Safe a0_late a0_texts a0_left a1 a2 x4 gl2 gx3 gx4 = some r) ?_ ?_))
      ·
       refine W.block (W.nilSl 9 1 ?_)
       refine W.loopJ (fun m gs D => ∃ (gv5 : Value) (gl6 : (List (List UInt8))) (gx7 : Int) (gx8 : Int) (gx9 : Int), gs = [(9, dropv (cutv p0_Seen x1.toNat) a1.toNat 1), (10, pt b6 0), (11, gv5), (12, .int .i64 gx7)] ∧ D = Cls w F [.obj b6 [pt pb0 0, .int .i64 a1, .int .i64 a2, .int .i64 x4, .int .i64 gx8, .int .i64 gx9, .bool false] 68, .obj pb0 [p0_Seen, p0_Safe, p0_late, p0_texts, .int .i64 a0_left] 48, .sl gv5 9 1 (gl6.map SR), .sl p0_Seen 9 1 (a0_Seen.map SR), .sl p0_Safe 9 1 (a0_Safe.map SR), .sl p0_late 3 1 (a0_late.map I), .sl p0_texts 9 1 (a0_texts.map SR)] ∧ m7_quirref_OpenLog_L1 l2 a0_Seen a0_Safe a0_late a0_texts a0_left a1 a2 x4 m gl6 gx7 gx8 gx9 = some r) ⟨.slice none 0 0, [], 0, 1, 0, rfl, rfl, h⟩ ⟨rfl, rfl, rfl, rfl, trivial⟩ (fun _ hw => hw.sel [1, 2, 0, 3, 4, 5, 6] (by decide) rfl) ?_
       rintro m _ _ ⟨gv5, gl6, gx7, gx8, gx9, rfl, rfl, h⟩
       rcases m with _ | m
       · rw [m7_quirref_OpenLog_L1] at h; cases h
       rw [m7_quirref_OpenLog_L1] at h
       generalize hg1 : m7_quirref_OpenLog_L1 l2 a0_Seen a0_Safe a0_late a0_texts a0_left a1 a2 x4 m = go1 at h
       rw [m7_quirref_OpenLog_L1B] at h
       refine W.block (W.seq (W.quietC mixed (by kernel_rfl) (fun _ hw => hw.drew) (fun hC => ?_)))
       refine U.y rfl (Y.move rfl) ?_
       refine U.y rfl (Y.move rfl) ?_
       refine U.y rfl (Y.nilCheck rfl) ?_
       refine U.y rfl (Y.fieldP fd68_4 rfl) ?_
       refine U.y rfl (Y.loadP (i := 0) ag3 rfl rfl rfl) ?_
       refine U.m (V := fun _ => dropv (dropv (cutv p0_Seen x1.toNat) a1.toNat 1) gx8.toNat 1) h rfl (Y.dropM (g := SR) Tryd.underlying30 sz9 rfl rfl (fun w hw => ((As.at_ (hw.get (i := 3) rfl)).midM el2))) (fun l21 el21 h => ?_)
       refine U.y rfl (Y.move rfl) ?_
       refine U.y rfl (Y.nilCheck rfl) ?_
       refine U.y rfl (Y.fieldP fd68_5 rfl) ?_
       refine U.y rfl (Y.loadP (i := 0) ag3 rfl rfl rfl) ?_
       obtain ⟨x22, s23, x24, e25, h⟩ := bind3S h
       refine U.y rfl (Y.does en30 rfl (fun w' hw => (w30_quirref_recordAt l21 gx9 (dropv (dropv (cutv p0_Seen x1.toNat) a1.toNat 1) gx8.toNat 1) w' _ e25 ((((As.at_ (hw.get (i := 3) rfl)).midM el2).dropM el21))).mono (fun _ _ h => h.1))) ?_
       refine U.y rfl (Y.move rfl) ?_
       refine U.y rfl (Y.extract rfl rfl) ?_
       refine U.y rfl (Y.extract rfl rfl) ?_
       refine U.y rfl (Y.extract rfl rfl) ?_
       refine U.y rfl (Y.assign rfl) ?_
       refine U.y rfl (Y.assign rfl) ?_
       refine U.y rfl (Y.assign rfl) ?_
       refine U.nil (E.thenN (W.seqJ (fun gs D => gs = [(9, dropv (cutv p0_Seen x1.toNat) a1.toNat 1), (10, pt b6 0), (11, gv5), (13, .int .i64 x22), (14, st s23), (15, .int .i64 x24)] ∧ D = Cls w F [.obj b6 [pt pb0 0, .int .i64 a1, .int .i64 a2, .int .i64 x4, .int .i64 gx8, .int .i64 gx9, .bool false] 68, .obj pb0 [p0_Seen, p0_Safe, p0_late, p0_texts, .int .i64 a0_left] 48, .sl gv5 9 1 (gl6.map SR), .sl p0_Seen 9 1 (a0_Seen.map SR), .sl p0_Safe 9 1 (a0_Safe.map SR), .sl p0_late 3 1 (a0_late.map I), .sl p0_texts 9 1 (a0_texts.map SR)] ∧ m7_quirref_OpenLog_K5 gl6 s23 gx8 x24 gx9 go1 x22 = some r) ?_ ?_))
       ·
        refine W.seq (W.region (L.cutJ 7 (fun gs D => ∃ (gb10 : Bool), gs = [(9, dropv (cutv p0_Seen x1.toNat) a1.toNat 1), (10, pt b6 0), (11, gv5), (13, .int .i64 x22), (14, st s23), (15, .int .i64 x24), (89, .bool gb10)] ∧ D = Cls w F [.obj b6 [pt pb0 0, .int .i64 a1, .int .i64 a2, .int .i64 x4, .int .i64 gx8, .int .i64 gx9, .bool false] 68, .obj pb0 [p0_Seen, p0_Safe, p0_late, p0_texts, .int .i64 a0_left] 48, .sl gv5 9 1 (gl6.map SR), .sl p0_Seen 9 1 (a0_Seen.map SR), .sl p0_Safe 9 1 (a0_Safe.map SR), .sl p0_late 3 1 (a0_late.map I), .sl p0_texts 9 1 (a0_texts.map SR)] ∧ m7_quirref_OpenLog_K6 a0_Seen a0_Safe a0_late a0_texts a0_left a1 a2 x4 gl6 gx8 gx9 x22 s23 x24 go1 gb10 = some r) ?_ ?_))
        ·
         refine L.y rfl (Y.move rfl) ?_
         refine L.ite h rfl (Y.eql rfl rfl) (fun c34 h => ?_) (fun c34 h => ?_)
         ·
          refine L.y rfl (Y.move rfl) ?_
          refine L.pass rfl rfl (by nofun) ?_
          refine L.pass rfl rfl (by nofun) ?_
          refine L.pass rfl rfl (by nofun) ?_
          refine L.y rfl (Y.pickT rfl rfl) ?_
          exact L.nil (E.joinJ ⟨true, rfl, rfl, h⟩ ⟨rfl, rfl, rfl, rfl, rfl, rfl, rfl, trivial⟩ (fun _ hw => hw))
         ·
          refine L.y rfl (Y.move rfl) ?_
          refine L.take rfl (L.y rfl (Y.move rfl) ?_)
          refine L.take rfl (L.y rfl (Y.move rfl) ?_)
          refine L.take rfl (L.ite h rfl (Y.lss rfl rfl) (fun c35 h => ?_) (fun c35 h => ?_))
          ·
           refine L.y rfl (Y.pickF rfl rfl) ?_
           exact L.nil (E.joinJ ⟨true, rfl, rfl, h⟩ ⟨rfl, rfl, rfl, rfl, rfl, rfl, rfl, trivial⟩ (fun _ hw => hw))
          ·
           refine L.y rfl (Y.pickF rfl rfl) ?_
           exact L.nil (E.joinJ ⟨false, rfl, rfl, h⟩ ⟨rfl, rfl, rfl, rfl, rfl, rfl, rfl, trivial⟩ (fun _ hw => hw))
        ·
         rintro _ _ ⟨gb10, rfl, rfl, h⟩
         rw [m7_quirref_OpenLog_K6] at h
         rcases gb10 with _ | _
         ·
          replace h := iteF h
          refine L.y rfl (Y.move rfl) ?_
          refine L.take rfl (L.y rfl (Y.move rfl) ?_)
          refine L.take rfl (L.y rfl (Y.move rfl) ?_)
          refine L.take rfl (L.y rfl (Y.nilCheck rfl) ?_)
          refine L.take rfl (L.y rfl (Y.fieldP fd68_3 rfl) ?_)
          refine L.take rfl (L.y rfl (Y.loadP (i := 0) ag3 rfl rfl rfl) ?_)
          refine L.take rfl (L.ite h rfl (Y.gtr rfl rfl) (fun c33 h => ?_) (fun c33 h => ?_))
          ·
           refine L.y rfl (Y.pickF rfl rfl) ?_
           refine L.nil (E.thenN (W.condT rfl ?_))
           exact W.exit (E.KSX (E.blockY rfl (E.KLX (E.blockX (E.joinJ ⟨gv5, gl6, gx8, gx9, rfl, rfl, h⟩ ⟨rfl, rfl, trivial⟩ (fun _ hw => hw))))))
          ·
           refine L.y rfl (Y.pickF rfl rfl) ?_
           refine L.nil (E.thenN (W.condF rfl ?_))
           exact W.skip (E.joinJ ⟨rfl, rfl, h⟩ ⟨rfl, rfl, rfl, rfl, rfl, rfl, trivial⟩ (fun _ hw => hw))
         ·
          replace h := iteT h
          refine L.y rfl (Y.move rfl) ?_
          refine L.pass rfl rfl (by nofun) ?_
          refine L.pass rfl rfl (by nofun) ?_
          refine L.pass rfl rfl (by nofun) ?_
          refine L.pass rfl rfl (by nofun) ?_
          refine L.pass rfl rfl (by nofun) ?_
          refine L.pass rfl rfl (by nofun) ?_
          refine L.y rfl (Y.pickT rfl rfl) ?_
          refine L.nil (E.thenN (W.condT rfl ?_))
          exact W.exit (E.KSX (E.blockY rfl (E.KLX (E.blockX (E.joinJ ⟨gv5, gl6, gx8, gx9, rfl, rfl, h⟩ ⟨rfl, rfl, trivial⟩ (fun _ hw => hw))))))
       ·
        rintro _ _ ⟨rfl, rfl, h⟩
        rw [m7_quirref_OpenLog_K5] at h
        refine W.seq (W.region (L.y rfl (Y.move rfl) ?_))
        refine L.y rfl (Y.move rfl) ?_
        refine L.litOne rfl Tryd.underlying30 eL9 rfl rfl ?_
        intro b26
        refine L.appM (i := 3) (g := SR) (l := gl6) (more := [s23]) h rfl Tryd.underlying30 eL9 rfl rfl rfl (fun w hw => As.at_ (hw.get (i := 0) rfl)) (plain_SR _) rfl ?_
        intro v27 l28 el28 h
        refine L.y rfl (Y.assign rfl) ?_
        refine L.nil (E.thenN (W.drawn2 (k := 21) (stC [[17]] [Cls w F [.sl v27 9 1 (l28.map SR), .sl (sv b26 1) 9 1 (([s23]).map SR), .obj b6 [pt pb0 0, .int .i64 a1, .int .i64 a2, .int .i64 x4, .int .i64 gx8, .int .i64 gx9, .bool false] 68, .obj pb0 [p0_Seen, p0_Safe, p0_late, p0_texts, .int .i64 a0_left] 48, .sl p0_Seen 9 1 (a0_Seen.map SR), .sl p0_Safe 9 1 (a0_Safe.map SR), .sl p0_late 3 1 (a0_late.map I), .sl p0_texts 9 1 (a0_texts.map SR)]] (Cls w F [.sl v27 9 1 (l28.map SR), .sl (sv b26 1) 9 1 (([s23]).map SR), .obj pb0 [p0_Seen, p0_Safe, p0_late, p0_texts, .int .i64 a0_left] 48, .sl p0_Seen 9 1 (a0_Seen.map SR), .sl p0_Safe 9 1 (a0_Safe.map SR), .sl p0_late 3 1 (a0_late.map I), .sl p0_texts 9 1 (a0_texts.map SR)])) rfl mixed (fun _ hw => hw.drew) (Sc.now (by kernel_rfl) (fun _ hw => hw)) ?_))
        refine V2.y (i := 0) (Nx2.of (Z := Cls w F [.sl v27 9 1 (l28.map SR), .sl (sv b26 1) 9 1 (([s23]).map SR), .obj pb0 [p0_Seen, p0_Safe, p0_late, p0_texts, .int .i64 a0_left] 48, .sl p0_Seen 9 1 (a0_Seen.map SR), .sl p0_Safe 9 1 (a0_Safe.map SR), .sl p0_late 3 1 (a0_late.map I), .sl p0_texts 9 1 (a0_texts.map SR)]) [] (by kernel_rfl) rfl (Zc.on (fun _ hw => hw.sel [0, 1, 3, 4, 5, 6, 7] (by decide) rfl) (Zc.fin (fun _ hw => hw)))) rfl rfl rfl (Y.move rfl) ?_
        refine V2.y (i := 1) (Nx2.of (Z := Cls w F [.sl v27 9 1 (l28.map SR), .sl (sv b26 1) 9 1 (([s23]).map SR), .obj pb0 [p0_Seen, p0_Safe, p0_late, p0_texts, .int .i64 a0_left] 48, .sl p0_Seen 9 1 (a0_Seen.map SR), .sl p0_Safe 9 1 (a0_Safe.map SR), .sl p0_late 3 1 (a0_late.map I), .sl p0_texts 9 1 (a0_texts.map SR)]) [] (by kernel_rfl) rfl (Zc.on (fun _ hw => hw.sel [0, 1, 3, 4, 5, 6, 7] (by decide) rfl) (Zc.fin (fun _ hw => hw)))) rfl rfl rfl (Y.move rfl) ?_
        refine V2.y (i := 2) (Nx2.of (Z := Cls w F [.sl v27 9 1 (l28.map SR), .sl (sv b26 1) 9 1 (([s23]).map SR), .obj pb0 [p0_Seen, p0_Safe, p0_late, p0_texts, .int .i64 a0_left] 48, .sl p0_Seen 9 1 (a0_Seen.map SR), .sl p0_Safe 9 1 (a0_Safe.map SR), .sl p0_late 3 1 (a0_late.map I), .sl p0_texts 9 1 (a0_texts.map SR)]) [] (by kernel_rfl) rfl (Zc.on (fun _ hw => hw.sel [0, 1, 3, 4, 5, 6, 7] (by decide) rfl) (Zc.fin (fun _ hw => hw)))) rfl rfl rfl (Y.move rfl) ?_
        refine V2.y (i := 3) (Nx2.of (Z := Cls w F [.sl v27 9 1 (l28.map SR), .sl (sv b26 1) 9 1 (([s23]).map SR), .obj pb0 [p0_Seen, p0_Safe, p0_late, p0_texts, .int .i64 a0_left] 48, .sl p0_Seen 9 1 (a0_Seen.map SR), .sl p0_Safe 9 1 (a0_Safe.map SR), .sl p0_late 3 1 (a0_late.map I), .sl p0_texts 9 1 (a0_texts.map SR)]) [] (by kernel_rfl) rfl (Zc.on (fun _ hw => hw.sel [0, 1, 3, 4, 5, 6, 7] (by decide) rfl) (Zc.fin (fun _ hw => hw)))) rfl rfl rfl (Y.move rfl) ?_
        refine V2.nilc (i := 4) (Nx2.of (Z := Cls w F [.sl v27 9 1 (l28.map SR), .sl (sv b26 1) 9 1 (([s23]).map SR), .obj pb0 [p0_Seen, p0_Safe, p0_late, p0_texts, .int .i64 a0_left] 48, .sl p0_Seen 9 1 (a0_Seen.map SR), .sl p0_Safe 9 1 (a0_Safe.map SR), .sl p0_late 3 1 (a0_late.map I), .sl p0_texts 9 1 (a0_texts.map SR)]) [] (by kernel_rfl) rfl (Zc.on (fun _ hw => hw.sel [0, 1, 3, 4, 5, 6, 7] (by decide) rfl) (Zc.fin (fun _ hw => hw)))) rfl rfl rfl ?_
        refine V2.y (i := 5) (Nx2.of (Z := Cls w F [.sl v27 9 1 (l28.map SR), .sl (sv b26 1) 9 1 (([s23]).map SR), .obj pb0 [p0_Seen, p0_Safe, p0_late, p0_texts, .int .i64 a0_left] 48, .sl p0_Seen 9 1 (a0_Seen.map SR), .sl p0_Safe 9 1 (a0_Safe.map SR), .sl p0_late 3 1 (a0_late.map I), .sl p0_texts 9 1 (a0_texts.map SR)]) [] (by kernel_rfl) rfl (Zc.on (fun _ hw => hw.sel [0, 1, 3, 4, 5, 6, 7] (by decide) rfl) (Zc.fin (fun _ hw => hw)))) rfl rfl rfl (Y.fieldP fd68_4 rfl) ?_
        refine V2.y (i := 6) (Nx2.of (Z := Cls w F [.sl v27 9 1 (l28.map SR), .sl (sv b26 1) 9 1 (([s23]).map SR), .obj b6 [pt pb0 0, .int .i64 a1, .int .i64 a2, .int .i64 x4, .int .i64 gx8, .int .i64 gx9, .bool false] 68, .obj pb0 [p0_Seen, p0_Safe, p0_late, p0_texts, .int .i64 a0_left] 48, .sl p0_Seen 9 1 (a0_Seen.map SR), .sl p0_Safe 9 1 (a0_Safe.map SR), .sl p0_late 3 1 (a0_late.map I), .sl p0_texts 9 1 (a0_texts.map SR)]) [17] (by kernel_rfl) rfl (Zc.at1 (fun _ hw => hw))) rfl rfl rfl (Y.loadP (i := 2) ag3 rfl rfl rfl) ?_
        refine V2.y (i := 7) (Nx2.of (Z := Cls w F [.sl v27 9 1 (l28.map SR), .sl (sv b26 1) 9 1 (([s23]).map SR), .obj pb0 [p0_Seen, p0_Safe, p0_late, p0_texts, .int .i64 a0_left] 48, .sl p0_Seen 9 1 (a0_Seen.map SR), .sl p0_Safe 9 1 (a0_Safe.map SR), .sl p0_late 3 1 (a0_late.map I), .sl p0_texts 9 1 (a0_texts.map SR)]) [] (by kernel_rfl) rfl (Zc.on (fun _ hw => hw.sel [0, 1, 3, 4, 5, 6, 7] (by decide) rfl) (Zc.fin (fun _ hw => hw)))) rfl rfl rfl (Y.move rfl) ?_
        refine V2.m (i := 8) (V' := fun x31 => .int .i64 x31) h (Nx2.of (Z := Cls w F [.sl v27 9 1 (l28.map SR), .sl (sv b26 1) 9 1 (([s23]).map SR), .obj pb0 [p0_Seen, p0_Safe, p0_late, p0_texts, .int .i64 a0_left] 48, .sl p0_Seen 9 1 (a0_Seen.map SR), .sl p0_Safe 9 1 (a0_Safe.map SR), .sl p0_late 3 1 (a0_late.map I), .sl p0_texts 9 1 (a0_texts.map SR)]) [] (by kernel_rfl) rfl (Zc.on (fun _ hw => hw.sel [0, 1, 3, 4, 5, 6, 7] (by decide) rfl) (Zc.fin (fun _ hw => hw)))) rfl rfl rfl (Y.addM rfl rfl) (fun x31 ex31 h => ?_)
        refine V2.y (i := 9) (Nx2.of (Z := Cls w F [.sl v27 9 1 (l28.map SR), .sl (sv b26 1) 9 1 (([s23]).map SR), .obj pb0 [p0_Seen, p0_Safe, p0_late, p0_texts, .int .i64 a0_left] 48, .sl p0_Seen 9 1 (a0_Seen.map SR), .sl p0_Safe 9 1 (a0_Safe.map SR), .sl p0_late 3 1 (a0_late.map I), .sl p0_texts 9 1 (a0_texts.map SR)]) [] (by kernel_rfl) rfl (Zc.on (fun _ hw => hw.sel [0, 1, 3, 4, 5, 6, 7] (by decide) rfl) (Zc.fin (fun _ hw => hw)))) rfl rfl rfl (Y.move rfl) ?_
        refine V2.nilc (i := 10) (Nx2.of (Z := Cls w F [.sl v27 9 1 (l28.map SR), .sl (sv b26 1) 9 1 (([s23]).map SR), .obj pb0 [p0_Seen, p0_Safe, p0_late, p0_texts, .int .i64 a0_left] 48, .sl p0_Seen 9 1 (a0_Seen.map SR), .sl p0_Safe 9 1 (a0_Safe.map SR), .sl p0_late 3 1 (a0_late.map I), .sl p0_texts 9 1 (a0_texts.map SR)]) [] (by kernel_rfl) rfl (Zc.on (fun _ hw => hw.sel [0, 1, 3, 4, 5, 6, 7] (by decide) rfl) (Zc.fin (fun _ hw => hw)))) rfl rfl rfl ?_
        refine V2.y (i := 11) (Nx2.of (Z := Cls w F [.sl v27 9 1 (l28.map SR), .sl (sv b26 1) 9 1 (([s23]).map SR), .obj pb0 [p0_Seen, p0_Safe, p0_late, p0_texts, .int .i64 a0_left] 48, .sl p0_Seen 9 1 (a0_Seen.map SR), .sl p0_Safe 9 1 (a0_Safe.map SR), .sl p0_late 3 1 (a0_late.map I), .sl p0_texts 9 1 (a0_texts.map SR)]) [] (by kernel_rfl) rfl (Zc.on (fun _ hw => hw.sel [0, 1, 3, 4, 5, 6, 7] (by decide) rfl) (Zc.fin (fun _ hw => hw)))) rfl rfl rfl (Y.fieldP fd68_5 rfl) ?_
        refine V2.y (i := 12) (Nx2.of (Z := Cls w F [.sl v27 9 1 (l28.map SR), .sl (sv b26 1) 9 1 (([s23]).map SR), .obj b6 [pt pb0 0, .int .i64 a1, .int .i64 a2, .int .i64 x4, .int .i64 gx8, .int .i64 gx9, .bool false] 68, .obj pb0 [p0_Seen, p0_Safe, p0_late, p0_texts, .int .i64 a0_left] 48, .sl p0_Seen 9 1 (a0_Seen.map SR), .sl p0_Safe 9 1 (a0_Safe.map SR), .sl p0_late 3 1 (a0_late.map I), .sl p0_texts 9 1 (a0_texts.map SR)]) [17] (by kernel_rfl) rfl (Zc.at1 (fun _ hw => hw))) rfl rfl rfl (Y.loadP (i := 2) ag3 rfl rfl rfl) ?_
        refine V2.m (i := 13) (V' := fun x32 => .int .i64 x32) h (Nx2.of (Z := Cls w F [.sl v27 9 1 (l28.map SR), .sl (sv b26 1) 9 1 (([s23]).map SR), .obj pb0 [p0_Seen, p0_Safe, p0_late, p0_texts, .int .i64 a0_left] 48, .sl p0_Seen 9 1 (a0_Seen.map SR), .sl p0_Safe 9 1 (a0_Safe.map SR), .sl p0_late 3 1 (a0_late.map I), .sl p0_texts 9 1 (a0_texts.map SR)]) [] (by kernel_rfl) rfl (Zc.on (fun _ hw => hw.sel [0, 1, 3, 4, 5, 6, 7] (by decide) rfl) (Zc.fin (fun _ hw => hw)))) rfl rfl rfl (Y.addM rfl rfl) (fun x32 ex32 h => ?_)
        refine V2.y (i := 14) (Nx2.of (Z := Cls w F [.sl v27 9 1 (l28.map SR), .sl (sv b26 1) 9 1 (([s23]).map SR), .obj pb0 [p0_Seen, p0_Safe, p0_late, p0_texts, .int .i64 a0_left] 48, .sl p0_Seen 9 1 (a0_Seen.map SR), .sl p0_Safe 9 1 (a0_Safe.map SR), .sl p0_late 3 1 (a0_late.map I), .sl p0_texts 9 1 (a0_texts.map SR)]) [] (by kernel_rfl) rfl (Zc.on (fun _ hw => hw.sel [0, 1, 3, 4, 5, 6, 7] (by decide) rfl) (Zc.fin (fun _ hw => hw)))) rfl rfl rfl (Y.assign rfl) ?_
        refine V2.nilc (i := 15) (Nx2.of (Z := Cls w F [.sl v27 9 1 (l28.map SR), .sl (sv b26 1) 9 1 (([s23]).map SR), .obj pb0 [p0_Seen, p0_Safe, p0_late, p0_texts, .int .i64 a0_left] 48, .sl p0_Seen 9 1 (a0_Seen.map SR), .sl p0_Safe 9 1 (a0_Safe.map SR), .sl p0_late 3 1 (a0_late.map I), .sl p0_texts 9 1 (a0_texts.map SR)]) [] (by kernel_rfl) rfl (Zc.on (fun _ hw => hw.sel [0, 1, 3, 4, 5, 6, 7] (by decide) rfl) (Zc.fin (fun _ hw => hw)))) rfl rfl rfl ?_
        refine V2.y (i := 16) (Nx2.of (Z := Cls w F [.sl v27 9 1 (l28.map SR), .sl (sv b26 1) 9 1 (([s23]).map SR), .obj pb0 [p0_Seen, p0_Safe, p0_late, p0_texts, .int .i64 a0_left] 48, .sl p0_Seen 9 1 (a0_Seen.map SR), .sl p0_Safe 9 1 (a0_Safe.map SR), .sl p0_late 3 1 (a0_late.map I), .sl p0_texts 9 1 (a0_texts.map SR)]) [] (by kernel_rfl) rfl (Zc.on (fun _ hw => hw.sel [0, 1, 3, 4, 5, 6, 7] (by decide) rfl) (Zc.fin (fun _ hw => hw)))) rfl rfl rfl (Y.fieldP fd68_4 rfl) ?_
        refine V2.eff (i := 17) (by kernel_rfl) rfl ?_
        refine L.store (i := 2) (vs := [.int .i64 x31]) sz3 rfl rfl rfl rfl (by simp [Value.oneCell', Value.cells, st, pt, el]) rfl (Nat.le_of_ble_eq_true rfl) ?_
        refine L.nil (E.toV2 (stC [] [] (Cls w F [.sl v27 9 1 (l28.map SR), .sl (sv b26 1) 9 1 (([s23]).map SR), .obj pb0 [p0_Seen, p0_Safe, p0_late, p0_texts, .int .i64 a0_left] 48, .sl p0_Seen 9 1 (a0_Seen.map SR), .sl p0_Safe 9 1 (a0_Safe.map SR), .sl p0_late 3 1 (a0_late.map I), .sl p0_texts 9 1 (a0_texts.map SR)])) 17 (by kernel_rfl) (Sc.past rfl (Sc.stayD (fun _ hw => hw))) (Sc.atD (fun _ hw => hw.sel [0, 1, 3, 4, 5, 6, 7] (by decide) rfl)) ?_)
        refine V2.nilc (i := 18) (Nx2.of (Z := Cls w F [.sl v27 9 1 (l28.map SR), .sl (sv b26 1) 9 1 (([s23]).map SR), .obj pb0 [p0_Seen, p0_Safe, p0_late, p0_texts, .int .i64 a0_left] 48, .sl p0_Seen 9 1 (a0_Seen.map SR), .sl p0_Safe 9 1 (a0_Safe.map SR), .sl p0_late 3 1 (a0_late.map I), .sl p0_texts 9 1 (a0_texts.map SR)]) [] (by kernel_rfl) rfl (Zc.fin (fun _ hw => hw))) rfl rfl rfl ?_
        refine V2.y (i := 19) (Nx2.of (Z := Cls w F [.sl v27 9 1 (l28.map SR), .sl (sv b26 1) 9 1 (([s23]).map SR), .obj pb0 [p0_Seen, p0_Safe, p0_late, p0_texts, .int .i64 a0_left] 48, .sl p0_Seen 9 1 (a0_Seen.map SR), .sl p0_Safe 9 1 (a0_Safe.map SR), .sl p0_late 3 1 (a0_late.map I), .sl p0_texts 9 1 (a0_texts.map SR)]) [] (by kernel_rfl) rfl (Zc.fin (fun _ hw => hw))) rfl rfl rfl (Y.fieldP fd68_5 rfl) ?_
        refine V2.eff (i := 20) (by kernel_rfl) rfl ?_
        refine L.store (i := 2) (vs := [.int .i64 x32]) sz3 rfl rfl rfl rfl (by simp [Value.oneCell', Value.cells, st, pt, el]) rfl (Nat.le_of_ble_eq_true rfl) ?_
        refine L.nil (E.toV2 (stC [] [] (Cls w F [.sl v27 9 1 (l28.map SR), .sl (sv b26 1) 9 1 (([s23]).map SR), .obj pb0 [p0_Seen, p0_Safe, p0_late, p0_texts, .int .i64 a0_left] 48, .sl p0_Seen 9 1 (a0_Seen.map SR), .sl p0_Safe 9 1 (a0_Safe.map SR), .sl p0_late 3 1 (a0_late.map I), .sl p0_texts 9 1 (a0_texts.map SR)])) 20 (by kernel_rfl) (Sc.stayD (fun _ hw => hw)) (Sc.atD (fun _ hw => hw.sel [0, 1, 3, 4, 5, 6, 7] (by decide) rfl)) ?_)
        refine V2.done (by kernel_rfl) ?_
        exact E.blockN (E.againJ ⟨v27, l28, x22, x31, x32, rfl, rfl, by rw [hg1]; exact h⟩ (Nat.lt_succ_self _) ⟨rfl, rfl, rfl, rfl, trivial⟩ (fun _ hw => hw.sel [2, 3, 0, 4, 5, 6, 7] (by decide) rfl))
      ·
       rintro _ _ ⟨gv1, gl2, gx3, gx4, rfl, rfl, h⟩
       rw [m7_quirref_OpenLog_K4] at h
       refine W.seq (W.seq (W.region (L.y rfl (Y.move rfl) ?_)))
       refine L.to (D := Cls w F [.obj b6 [pt pb0 0, .int .i64 a1, .int .i64 a2, .int .i64 x4, .int .i64 gx3, .int .i64 gx4, .bool false] 68, .obj pb0 [p0_Seen, p0_Safe, p0_late, p0_texts, .int .i64 a0_left] 48, .sl p0_Seen 9 1 (a0_Seen.map SR), .sl p0_Safe 9 1 (a0_Safe.map SR), .sl p0_late 3 1 (a0_late.map I), .sl p0_texts 9 1 (a0_texts.map SR), .sl gv1 9 1 (gl2.map SR)]) (fun _ hw => hw.sel [0, 1, 3, 4, 5, 6, 2] (by decide) rfl) ?_
       obtain ⟨l7, l8, l9, l10, x11, x12, b13, x14, e15, h⟩ := bind8S h
       refine L.doesP (A := [.obj b6 [pt pb0 0, .int .i64 a1, .int .i64 a2, .int .i64 x4, .int .i64 gx3, .int .i64 gx4, .bool false] 68, .obj pb0 [p0_Seen, p0_Safe, p0_late, p0_texts, .int .i64 a0_left] 48, .sl p0_Seen 9 1 (a0_Seen.map SR), .sl p0_Safe 9 1 (a0_Safe.map SR), .sl p0_late 3 1 (a0_late.map I), .sl p0_texts 9 1 (a0_texts.map SR)]) (M := [.sl gv1 9 1 (gl2.map SR)]) rfl en31 rfl (fun w' hw => w31_quirref_Log_raise a0_Seen a0_Safe a0_late a0_texts a0_left a1 a2 x4 gx3 gx4 false b6 pb0 p0_Seen p0_Safe p0_late p0_texts w' _ e15 _ hw.lend) ?_
       rintro _ _ ⟨v16, v17, v18, v19, rfl, rfl⟩
       refine L.to (D := Cls w F [.obj b6 [pt pb0 0, .int .i64 a1, .int .i64 a2, .int .i64 x12, .int .i64 gx3, .int .i64 gx4, .bool b13] 68, .obj pb0 [v16, v17, v18, v19, .int .i64 x11] 48, .sl v16 9 1 (l7.map SR), .sl v17 9 1 (l8.map SR), .sl v18 3 1 (l9.map I), .sl v19 9 1 (l10.map SR), .sl gv1 9 1 (gl2.map SR)]) (fun _ hw => hw) ?_
       refine L.y rfl (Y.assign rfl) ?_
       refine L.nil (E.thenN (W.seq (W.region (L.y rfl (Y.move rfl) ?_))))
       refine L.ite h rfl (Y.neq rfl rfl) (fun c20 h => ?_) (fun c20 h => ?_)
       ·
        refine L.nil (E.thenN (W.condT rfl ?_))
        refine W.seq (W.region (L.y rfl (Y.move rfl) ?_))
        refine L.y rfl (Y.assign rfl) ?_
        refine L.y rfl (Y.assign rfl) ?_
        refine L.y rfl (Y.assign rfl) ?_
        refine L.nil (E.thenN (W.ret (E.thenR (E.ret3 rfl rfl rfl rfl (fun w1 hw => ?_)))))
        obtain rfl := Option.some.inj h
        exact ⟨_, _, rfl, ⟨_, _, _, _, _, rfl, rfl⟩, (hw.nilSl 9 1).sel [2, 3, 4, 5, 6, 0] (by decide) rfl⟩
       ·
        refine L.nil (E.thenN (W.condF rfl ?_))
        refine W.skip (E.thenN (W.seq (W.region (L.y rfl (Y.move rfl) ?_))))
        refine L.y rfl (Y.move rfl) ?_
        refine L.y rfl (Y.assign rfl) ?_
        refine L.y rfl (Y.assign rfl) ?_
        refine L.y rfl (Y.assign rfl) ?_
        refine L.nil (E.thenN (W.ret (E.ret3 rfl rfl rfl rfl (fun w1 hw => ?_))))
        obtain rfl := Option.some.inj h
        exact ⟨_, _, rfl, ⟨_, _, _, _, _, _, rfl, rfl⟩, hw⟩
set_option maxRecDepth 100000 in
set_option maxHeartbeats 8000000 in
theorem w8_slices_Equal_string (a0 : (List (List UInt8))) (a1 : (List (List UInt8))) (u0 : Value) (u1 : Value) (w : World) (r : Bool) (h : m8_slices_Equal_string a0 a1 = some r) (hA0 : At w u0 1 (a0.map SR)) (hA1 : At w u1 1 (a1.map SR)) : Does Tryd.prog 8 [u0, u1] w fun u m => u = .bool r ∧ m = [] := by
  rw [m8_slices_Equal_string] at h
  refine body (n := 26) Tryd.func8 rfl rfl rfl (Cls.refl w) ?_
  refine W.seq (W.region (L.y rfl (Y.assign rfl) ?_))
  refine L.nil (E.thenN (W.seqJ (fun gs D => gs = [(0, u0), (1, u1)] ∧ D = Cls w [] [] ∧ m8_slices_Equal_string_K1 a0 a1 = some r) ?_ ?_))
  ·
   refine W.seq (W.region (L.y rfl (Y.move rfl) ?_))
   refine L.y rfl (Y.lenM (g := SR) (l := a0) Tryd.underlying30 rfl (fun w' hw => hA0.cls0 hw)) ?_
   refine L.y rfl (Y.move rfl) ?_
   refine L.y rfl (Y.lenM (g := SR) (l := a1) Tryd.underlying30 rfl (fun w' hw => hA1.cls0 hw)) ?_
   refine L.ite h rfl (Y.neq rfl rfl) (fun c6 h => ?_) (fun c6 h => ?_)
   ·
    refine L.nil (E.thenN (W.condT rfl ?_))
    refine W.seq (W.region (L.y rfl (Y.assign rfl) ?_))
    refine L.nil (E.thenN (W.ret (E.KSR (E.ret1 rfl rfl (fun w1 hw => ?_)))))
    obtain rfl := Option.some.inj h
    exact ⟨_, _, rfl, ⟨rfl, rfl⟩, hw⟩
   ·
    refine L.nil (E.thenN (W.condF rfl ?_))
    exact W.skip (E.joinJ ⟨rfl, rfl, h⟩ ⟨rfl, rfl, trivial⟩ (fun _ hw => hw))
  ·
   rintro _ _ ⟨rfl, rfl, h⟩
   rw [m8_slices_Equal_string_K1] at h
   refine W.seqJ (fun gs D => gs = [] ∧ D = Cls w [] [] ∧ m8_slices_Equal_string_K2 = some r) ?_ ?_
   ·
    refine W.seq (W.region (L.y rfl (Y.move rfl) ?_))
    refine L.y rfl (Y.lenM (g := SR) (l := a0) Tryd.underlying30 rfl (fun w' hw => hA0.cls0 hw)) ?_
    refine L.y rfl (Y.move rfl) ?_
    refine L.nil (E.thenN (W.block (W.loopJ (fun m gs D => ∃ (gx1 : Int), gs = [(0, u0), (1, u1), (12, .int .i64 (a0.length : Int)), (13, .int .i64 gx1)] ∧ D = Cls w [] [] ∧ m8_slices_Equal_string_L1 a0 a1 m gx1 = some r) ⟨0, rfl, rfl, h⟩ ⟨rfl, rfl, rfl, rfl, trivial⟩ (fun _ hw => hw) ?_)))
    rintro m _ _ ⟨gx1, rfl, rfl, h⟩
    rcases m with _ | m
    · rw [m8_slices_Equal_string_L1] at h; cases h
    rw [m8_slices_Equal_string_L1] at h
    generalize hg1 : m8_slices_Equal_string_L1 a0 a1 m = go1 at h
    rw [m8_slices_Equal_string_L1B] at h
    refine W.seq (W.region (L.ite h rfl (Y.lss rfl rfl) (fun c1 h => ?_) (fun c1 h => ?_)))
    ·
     refine L.nil (E.thenN (W.seq (W.condT rfl ?_)))
     refine W.skip (E.thenN (W.seq (W.block (W.seq (W.region (L.y rfl (Y.move rfl) ?_))))))
     refine L.y rfl (Y.assign rfl) ?_
     refine L.nil (E.thenN (W.seq (W.quietC mixed (by kernel_rfl) (fun _ hw => hw.drew) (fun hC => ?_))))
     refine U.y rfl (Y.move rfl) ?_
     refine U.y rfl (Y.move rfl) ?_
     refine U.m (V := fun _ => el u0 (gx1.toNat * 1)) h rfl (Y.indexM (g := SR) (l := a0) Tryd.underlying30 sz9 rfl rfl (fun w' hw => hA0.cls0 hw)) (fun x2 ex2 h => ?_)
     refine U.y rfl (Y.loadE1 (u := st x2) ag9 rfl (fun w' hw => hA0.cls0 hw) (idx_map ex2)) ?_
     refine U.y rfl (Y.move rfl) ?_
     refine U.y rfl (Y.move rfl) ?_
     refine U.m (V := fun _ => el u1 (gx1.toNat * 1)) h rfl (Y.indexM (g := SR) (l := a1) Tryd.underlying30 sz9 rfl rfl (fun w' hw => hA1.cls0 hw)) (fun x3 ex3 h => ?_)
     refine U.y rfl (Y.loadE1 (u := st x3) ag9 rfl (fun w' hw => hA1.cls0 hw) (idx_map ex3)) ?_
     refine U.ite h rfl (Y.neqS rfl rfl) (fun c4 h => ?_) (fun c4 h => ?_)
     ·
      refine U.nil (E.thenN (W.condT rfl ?_))
      refine W.seq (W.region (L.y rfl (Y.assign rfl) ?_))
      refine L.nil (E.thenN (W.ret (E.blockR (E.thenR (E.KLR (E.blockR (E.KSR (E.ret1 rfl rfl (fun w1 hw => ?_)))))))))
      obtain rfl := Option.some.inj h
      exact ⟨_, _, rfl, ⟨rfl, rfl⟩, hw⟩
     ·
      refine U.nil (E.thenN (W.condF rfl ?_))
      refine W.skip (E.blockN (E.thenN (W.region (L.m (V := fun x5 => .int .i64 x5) h rfl (Y.addM rfl rfl) (fun x5 ex5 h => ?_)))))
      refine L.y rfl (Y.move rfl) ?_
      exact L.nil (E.againJ ⟨x5, rfl, rfl, by rw [hg1]; exact h⟩ (Nat.lt_succ_self _) ⟨rfl, rfl, rfl, rfl, trivial⟩ (fun _ hw => hw))
    ·
     refine L.nil (E.thenN (W.seq (W.condF rfl ?_)))
     exact W.exit (E.thenX (E.KLX (E.blockX (E.joinJ ⟨rfl, rfl, h⟩ trivial (fun _ hw => hw)))))
   ·
    rintro _ _ ⟨rfl, rfl, h⟩
    rw [m8_slices_Equal_string_K2] at h
    refine W.seq (W.region (L.y rfl (Y.assign rfl) ?_))
    refine L.nil (E.thenN (W.ret (E.ret1 rfl rfl (fun w1 hw => ?_))))
    obtain rfl := Option.some.inj h
    exact ⟨_, _, rfl, ⟨rfl, rfl⟩, hw⟩
set_option maxRecDepth 100000 in
set_option maxHeartbeats 8000000 in
theorem w61_code_PutText (a0 : (List UInt8)) (w : World) (r : ((List UInt8) × Int)) (h : m61_code_PutText a0 = some r) : Does Tryd.prog 61 [st a0] w fun u m => u = .tuple #[st r.1, .int .i64 r.2] ∧ m = [] := by
  rw [m61_code_PutText] at h
  refine body (n := 13) Tryd.func61 rfl rfl rfl (Cls.refl w) ?_
  refine W.seq (W.region (L.y rfl (Y.assign rfl) ?_))
  refine L.y rfl (Y.assign rfl) ?_
  refine L.nil (E.thenN (W.seq (W.seq (W.region (L.y rfl (Y.move rfl) ?_)))))
  refine L.y rfl (Y.lenS Tryd.underlying9 rfl) ?_
  refine L.ite h rfl (Y.gtr rfl rfl) (fun c1 h => ?_) (fun c1 h => ?_)
  ·
   refine L.nil (E.thenN (W.condT rfl ?_))
   refine W.seq (W.region (L.y rfl (Y.assign rfl) ?_))
   refine L.y rfl (Y.assign rfl) ?_
   refine L.nil (E.thenN (W.ret (E.thenR (E.ret2 rfl rfl rfl (fun w1 hw => ?_)))))
   obtain rfl := Option.some.inj h
   exact ⟨_, _, rfl, ⟨rfl, rfl⟩, hw⟩
  ·
   refine L.nil (E.thenN (W.condF rfl ?_))
   refine W.skip (E.thenN (W.seq (W.region (L.y rfl (Y.move rfl) ?_))))
   refine L.y rfl (Y.lenS Tryd.underlying9 rfl) ?_
   refine L.y rfl (Y.conv Tryd.underlying3 Tryd.underlying95 rfl) ?_
   obtain ⟨s2, e3, h⟩ := bind1S h
   refine L.y rfl (Y.does en80 rfl (fun w' hw => (w80_code_PutNat (IntKind.wrap .u64 (a0.length : Int)) w' _ e3).mono (fun _ _ h => h.1))) ?_
   refine L.y rfl (Y.move rfl) ?_
   refine L.m (V := fun s4 => st s4) h rfl (Y.catM rfl rfl) (fun s4 es4 h => ?_)
   refine L.y rfl (Y.assign rfl) ?_
   refine L.y rfl (Y.assign rfl) ?_
   refine L.nil (E.thenN (W.ret (E.ret2 rfl rfl rfl (fun w1 hw => ?_))))
   obtain rfl := Option.some.inj h
   exact ⟨_, _, rfl, ⟨rfl, rfl⟩, hw⟩
set_option maxRecDepth 100000 in
set_option maxHeartbeats 8000000 in
theorem w32_wal_sectors (a0 : Int) (a1 : Int) (a2 : (List UInt8)) (w : World) (r : (List (List UInt8))) (h : m32_wal_sectors a0 a1 a2 = some r) : Does Tryd.prog 32 [.int .i64 a0, .int .i64 a1, st a2] w fun u m => ∃ v0, u = v0 ∧ m = [.sl v0 9 1 (r.map SR)] := by
  rw [m32_wal_sectors] at h
  refine body (n := 49) Tryd.func32 rfl rfl rfl (Cls.refl w) ?_
  refine W.seq (W.region (L.y rfl (Y.assign rfl) ?_))
  refine L.nil (E.thenN (W.seq (W.region (L.y rfl (Y.move rfl) ?_))))
  obtain ⟨s1, x2, e3, h⟩ := bind2S h
  refine L.y rfl (Y.does en61 rfl (fun w' hw => (w61_code_PutText a2 w' _ e3).mono (fun _ _ h => h.1))) ?_
  refine L.y rfl (Y.move rfl) ?_
  refine L.y rfl (Y.extract rfl rfl) ?_
  refine L.y rfl (Y.extract rfl rfl) ?_
  refine L.y rfl (Y.assign rfl) ?_
  refine L.y rfl (Y.assign rfl) ?_
  refine L.nil (E.thenN (W.seq (W.region (L.y rfl (Y.move rfl) ?_))))
  obtain ⟨s4, x5, e6, h⟩ := bind2S h
  refine L.y rfl (Y.does en62 rfl (fun w' hw => (w62_fold_Put s1 w' _ e6).mono (fun _ _ h => h.1))) ?_
  refine L.y rfl (Y.move rfl) ?_
  refine L.y rfl (Y.extract rfl rfl) ?_
  refine L.y rfl (Y.extract rfl rfl) ?_
  refine L.y rfl (Y.assign rfl) ?_
  refine L.y rfl (Y.assign rfl) ?_
  refine L.nil (E.thenN (W.seq (W.region (L.y rfl (Y.assign rfl) ?_))))
  refine L.nil (E.thenN (W.seqJ (fun gs D => ∃ (gv1 : Value) (gl2 : (List (List UInt8))), gs = [(11, gv1)] ∧ D = Cls w [] [.sl gv1 9 1 (gl2.map SR)] ∧ m32_wal_sectors_K1 gl2 = some r) ?_ ?_))
  ·
   refine W.seq (W.region (L.y rfl (Y.assign rfl) ?_))
   refine L.nil (E.thenN (W.block (W.nilSl 9 1 ?_)))
   refine W.loopJ (fun m gs D => ∃ (gs3 : (List UInt8)) (gv4 : Value) (gl5 : (List (List UInt8))) (gs6 : (List UInt8)), gs = [(0, .int .i64 a0), (1, .int .i64 a1), (9, st gs3), (11, gv4), (12, st gs6)] ∧ D = Cls w [] [.sl gv4 9 1 (gl5.map SR)] ∧ m32_wal_sectors_L1 a0 a1 m gs3 gl5 gs6 = some r) ⟨s4, .slice none 0 0, [], [1], rfl, rfl, h⟩ ⟨rfl, rfl, rfl, rfl, rfl, trivial⟩ (fun _ hw => hw) ?_
   rintro m _ _ ⟨gs3, gv4, gl5, gs6, rfl, rfl, h⟩
   rcases m with _ | m
   · rw [m32_wal_sectors_L1] at h; cases h
   rw [m32_wal_sectors_L1] at h
   generalize hg1 : m32_wal_sectors_L1 a0 a1 m = go1 at h
   rw [m32_wal_sectors_L1B] at h
   refine W.seqJ (fun gs D => gs = [(0, .int .i64 a0), (1, .int .i64 a1), (9, st gs3), (11, gv4), (12, st gs6)] ∧ D = Cls w [] [.sl gv4 9 1 (gl5.map SR)] ∧ m32_wal_sectors_K2 gs6 a0 a1 gs3 gl5 go1 = some r) ?_ ?_
   ·
    refine W.seq (W.region (L.y rfl (Y.move rfl) ?_))
    refine L.ite h rfl (Y.neqS rfl rfl) (fun c16 h => ?_) (fun c16 h => ?_)
    ·
     refine L.nil (E.thenN (W.condT rfl ?_))
     exact W.skip (E.joinJ ⟨rfl, rfl, h⟩ ⟨rfl, rfl, rfl, rfl, rfl, trivial⟩ (fun _ hw => hw))
    ·
     refine L.nil (E.thenN (W.condF rfl ?_))
     exact W.exit (E.KSX (E.KLX (E.blockX (E.joinJ ⟨gv4, gl5, rfl, rfl, h⟩ ⟨rfl, trivial⟩ (fun _ hw => hw)))))
   ·
    rintro _ _ ⟨rfl, rfl, h⟩
    rw [m32_wal_sectors_K2] at h
    refine W.seq (W.block (W.seq (W.region (L.y rfl (Y.move rfl) ?_))))
    refine L.y rfl (Y.move rfl) ?_
    refine L.y rfl (Y.move rfl) ?_
    obtain ⟨s7, e8, h⟩ := bind1S h
    refine L.y rfl (Y.does en54 rfl (fun w' hw => (w54_wal_head gs6 a0 a1 w' _ e8).mono (fun _ _ h => h.1))) ?_
    refine L.y rfl (Y.assign rfl) ?_
    refine L.nil (E.thenN (W.seq (W.region (L.y rfl (Y.move rfl) ?_))))
    refine L.y rfl (Y.lenS Tryd.underlying9 rfl) ?_
    refine L.m (V := fun x9 => .int .i64 x9) h rfl (Y.subM rfl rfl) (fun x9 ex9 h => ?_)
    refine L.y rfl (Y.move rfl) ?_
    refine L.y rfl (Y.lenS Tryd.underlying9 rfl) ?_
    refine L.y rfl (Y.min2 rfl rfl) ?_
    refine L.y rfl (Y.assign rfl) ?_
    refine L.nil (E.thenN (W.seq (W.region (L.y rfl (Y.move rfl) ?_))))
    refine L.y rfl (Y.move rfl) ?_
    refine L.y rfl (Y.move rfl) ?_
    refine L.y rfl (Y.move rfl) ?_
    refine L.m (V := fun s10 => st s10) h rfl (Y.sliceSH Tryd.underlying9 rfl rfl) (fun s10 es10 h => ?_)
    refine L.m (V := fun s11 => st s11) h rfl (Y.catM rfl rfl) (fun s11 es11 h => ?_)
    refine L.litOne rfl Tryd.underlying30 eL9 rfl rfl ?_
    intro b12
    refine L.appM (i := 1) (g := SR) (l := gl5) (more := [s11]) h rfl Tryd.underlying30 eL9 rfl rfl rfl (fun w hw => As.at_ (hw.get (i := 0) rfl)) (plain_SR _) rfl ?_
    intro v13 l14 el14 h
    refine L.y rfl (Y.assign rfl) ?_
    refine L.nil (E.thenN (W.region (L.y rfl (Y.move rfl) ?_)))
    refine L.y rfl (Y.move rfl) ?_
    refine L.m (V := fun s15 => st s15) h rfl (Y.sliceSL Tryd.underlying9 rfl rfl) (fun s15 es15 h => ?_)
    refine L.y rfl (Y.assign rfl) ?_
    refine L.nil (E.blockN (E.thenN (W.region (L.y rfl (Y.assign rfl) ?_))))
    exact L.nil (E.againJ ⟨s15, v13, l14, [2], rfl, rfl, by rw [hg1]; exact h⟩ (Nat.lt_succ_self _) ⟨rfl, rfl, rfl, rfl, rfl, trivial⟩ (fun _ hw => hw.sel [0] (by decide) rfl))
  ·
   rintro _ _ ⟨gv1, gl2, rfl, rfl, h⟩
   rw [m32_wal_sectors_K1] at h
   refine W.seq (W.region (L.y rfl (Y.move rfl) ?_))
   refine L.y rfl (Y.assign rfl) ?_
   refine L.nil (E.thenN (W.ret (E.ret1 rfl rfl (fun w1 hw => ?_))))
   obtain rfl := Option.some.inj h
   exact ⟨_, _, rfl, ⟨_, rfl, rfl⟩, hw⟩
set_option maxRecDepth 100000 in
set_option maxHeartbeats 8000000 in
theorem w9_wal_Log_Append (a0_d_safe : (List (List UInt8))) (a0_d_seen : (List (List UInt8))) (a0_d_late : (List Twrite)) (a0_d_left : Int) (a0_from : Int) (a0_size : Int) (a0_epoch : Int) (a0_at : Int) (a0_seq : Int) (a0_fell : Bool) (a1 : (List UInt8)) (pb0 : Nat) (pb0_d : Nat) (p0_d_safe : Value) (p0_d_seen : Value) (p0_d_late : Value) (w : World) (r : ((List (List UInt8)) × (List (List UInt8)) × (List Twrite) × Int × Int × Int × Bool × Int)) (h : m9_wal_Log_Append a0_d_safe a0_d_seen a0_d_late a0_d_left a0_from a0_size a0_epoch a0_at a0_seq a0_fell a1 = some r) (F : List Nat) (hc0 : Cls w F [.obj pb0 [pt pb0_d 0, .int .i64 a0_from, .int .i64 a0_size, .int .i64 a0_epoch, .int .i64 a0_at, .int .i64 a0_seq, .bool a0_fell] 58, .obj pb0_d [p0_d_safe, p0_d_seen, p0_d_late, .int .i64 a0_d_left] 54, .sl p0_d_safe 9 1 (a0_d_safe.map SR), .sl p0_d_seen 9 1 (a0_d_seen.map SR), .sl p0_d_late 75 2 (a0_d_late.map Twrite.row)] w) : DoesF Tryd.prog 9 [pt pb0 0, st a1] F w fun u m => ∃ y1 y2 y3, u = .int .i64 r.2.2.2.2.2.2.2 ∧ m = [.obj pb0 [pt pb0_d 0, .int .i64 a0_from, .int .i64 a0_size, .int .i64 a0_epoch, .int .i64 r.2.2.2.2.1, .int .i64 r.2.2.2.2.2.1, .bool r.2.2.2.2.2.2.1] 58, .obj pb0_d [y1, y2, y3, .int .i64 r.2.2.2.1] 54, .sl y1 9 1 (r.1.map SR), .sl y2 9 1 (r.2.1.map SR), .sl y3 75 2 (r.2.2.1.map Twrite.row)] := by
  rw [m9_wal_Log_Append] at h
  refine body (n := 84) Tryd.func9 rfl rfl rfl hc0 ?_
  refine W.seq (W.region (L.y rfl (Y.assign rfl) ?_))
  refine L.nil (E.thenN (W.seqJ (fun gs D => gs = [(0, pt pb0 0), (1, st a1)] ∧ D = Cls w F [.obj pb0 [pt pb0_d 0, .int .i64 a0_from, .int .i64 a0_size, .int .i64 a0_epoch, .int .i64 a0_at, .int .i64 a0_seq, .bool a0_fell] 58, .obj pb0_d [p0_d_safe, p0_d_seen, p0_d_late, .int .i64 a0_d_left] 54, .sl p0_d_safe 9 1 (a0_d_safe.map SR), .sl p0_d_seen 9 1 (a0_d_seen.map SR), .sl p0_d_late 75 2 (a0_d_late.map Twrite.row)] ∧ m9_wal_Log_Append_K1 a1 a0_d_safe a0_d_seen a0_d_late a0_d_left a0_at a0_seq a0_fell a0_epoch a0_size a0_from = some r) ?_ ?_))
  ·
   refine W.seq (W.region (L.y rfl (Y.move rfl) ?_))
   refine L.y rfl (Y.nilCheck rfl) ?_
   refine L.y rfl (Y.fieldP fd58_6 rfl) ?_
   refine L.iteB h rfl (Y.loadP (i := 0) ag4 rfl rfl rfl) (fun c50 h => ?_) (fun c50 h => ?_)
   ·
    refine L.nil (E.thenN (W.condT rfl ?_))
    refine W.seq (W.region (L.y rfl (Y.assign rfl) ?_))
    refine L.nil (E.thenN (W.ret (E.KSR (E.ret1 rfl rfl (fun w1 hw => ?_)))))
    obtain rfl := Option.some.inj h
    exact ⟨_, _, rfl, ⟨_, _, _, rfl, rfl⟩, hw⟩
   ·
    refine L.nil (E.thenN (W.condF rfl ?_))
    exact W.skip (E.joinJ ⟨rfl, rfl, h⟩ ⟨rfl, rfl, trivial⟩ (fun _ hw => hw))
  ·
   rintro _ _ ⟨rfl, rfl, h⟩
   rw [m9_wal_Log_Append_K1] at h
   refine W.seqJ (fun gs D => gs = [(0, pt pb0 0), (1, st a1)] ∧ D = Cls w F [.obj pb0 [pt pb0_d 0, .int .i64 a0_from, .int .i64 a0_size, .int .i64 a0_epoch, .int .i64 a0_at, .int .i64 a0_seq, .bool a0_fell] 58, .obj pb0_d [p0_d_safe, p0_d_seen, p0_d_late, .int .i64 a0_d_left] 54, .sl p0_d_safe 9 1 (a0_d_safe.map SR), .sl p0_d_seen 9 1 (a0_d_seen.map SR), .sl p0_d_late 75 2 (a0_d_late.map Twrite.row)] ∧ m9_wal_Log_Append_K2 a0_epoch a0_seq a1 a0_at a0_size a0_d_safe a0_d_seen a0_d_late a0_d_left a0_fell a0_from = some r) ?_ ?_
   ·
    refine W.seq (W.region (L.y rfl (Y.move rfl) ?_))
    refine L.y rfl (Y.lenS Tryd.underlying9 rfl) ?_
    refine L.ite h rfl (Y.gtr rfl rfl) (fun c49 h => ?_) (fun c49 h => ?_)
    ·
     refine L.nil (E.thenN (W.condT rfl ?_))
     refine W.seq (W.region (L.y rfl (Y.assign rfl) ?_))
     refine L.nil (E.thenN (W.ret (E.KSR (E.ret1 rfl rfl (fun w1 hw => ?_)))))
     obtain rfl := Option.some.inj h
     exact ⟨_, _, rfl, ⟨_, _, _, rfl, rfl⟩, hw⟩
    ·
     refine L.nil (E.thenN (W.condF rfl ?_))
     exact W.skip (E.joinJ ⟨rfl, rfl, h⟩ ⟨rfl, rfl, trivial⟩ (fun _ hw => hw))
   ·
    rintro _ _ ⟨rfl, rfl, h⟩
    rw [m9_wal_Log_Append_K2] at h
    refine W.seq (W.drawn2 (k := 11) (stC [] [] (Cls w F [.obj pb0 [pt pb0_d 0, .int .i64 a0_from, .int .i64 a0_size, .int .i64 a0_epoch, .int .i64 a0_at, .int .i64 a0_seq, .bool a0_fell] 58, .obj pb0_d [p0_d_safe, p0_d_seen, p0_d_late, .int .i64 a0_d_left] 54, .sl p0_d_safe 9 1 (a0_d_safe.map SR), .sl p0_d_seen 9 1 (a0_d_seen.map SR), .sl p0_d_late 75 2 (a0_d_late.map Twrite.row)])) rfl mixed (fun _ hw => hw.drew) (Sc.atD (fun _ hw => hw)) ?_)
    refine V2.y (i := 0) (Nx2.of (Z := Cls w F [.obj pb0 [pt pb0_d 0, .int .i64 a0_from, .int .i64 a0_size, .int .i64 a0_epoch, .int .i64 a0_at, .int .i64 a0_seq, .bool a0_fell] 58, .obj pb0_d [p0_d_safe, p0_d_seen, p0_d_late, .int .i64 a0_d_left] 54, .sl p0_d_safe 9 1 (a0_d_safe.map SR), .sl p0_d_seen 9 1 (a0_d_seen.map SR), .sl p0_d_late 75 2 (a0_d_late.map Twrite.row)]) [] (by kernel_rfl) rfl (Zc.fin (fun _ hw => hw))) rfl rfl rfl (Y.move rfl) ?_
    refine V2.nilc (i := 1) (Nx2.of (Z := Cls w F [.obj pb0 [pt pb0_d 0, .int .i64 a0_from, .int .i64 a0_size, .int .i64 a0_epoch, .int .i64 a0_at, .int .i64 a0_seq, .bool a0_fell] 58, .obj pb0_d [p0_d_safe, p0_d_seen, p0_d_late, .int .i64 a0_d_left] 54, .sl p0_d_safe 9 1 (a0_d_safe.map SR), .sl p0_d_seen 9 1 (a0_d_seen.map SR), .sl p0_d_late 75 2 (a0_d_late.map Twrite.row)]) [] (by kernel_rfl) rfl (Zc.fin (fun _ hw => hw))) rfl rfl rfl ?_
    refine V2.y (i := 2) (Nx2.of (Z := Cls w F [.obj pb0 [pt pb0_d 0, .int .i64 a0_from, .int .i64 a0_size, .int .i64 a0_epoch, .int .i64 a0_at, .int .i64 a0_seq, .bool a0_fell] 58, .obj pb0_d [p0_d_safe, p0_d_seen, p0_d_late, .int .i64 a0_d_left] 54, .sl p0_d_safe 9 1 (a0_d_safe.map SR), .sl p0_d_seen 9 1 (a0_d_seen.map SR), .sl p0_d_late 75 2 (a0_d_late.map Twrite.row)]) [] (by kernel_rfl) rfl (Zc.fin (fun _ hw => hw))) rfl rfl rfl (Y.fieldP fd58_3 rfl) ?_
    refine V2.y (i := 3) (Nx2.of (Z := Cls w F [.obj pb0 [pt pb0_d 0, .int .i64 a0_from, .int .i64 a0_size, .int .i64 a0_epoch, .int .i64 a0_at, .int .i64 a0_seq, .bool a0_fell] 58, .obj pb0_d [p0_d_safe, p0_d_seen, p0_d_late, .int .i64 a0_d_left] 54, .sl p0_d_safe 9 1 (a0_d_safe.map SR), .sl p0_d_seen 9 1 (a0_d_seen.map SR), .sl p0_d_late 75 2 (a0_d_late.map Twrite.row)]) [] (by kernel_rfl) rfl (Zc.fin (fun _ hw => hw))) rfl rfl rfl (Y.loadP (i := 0) ag3 rfl rfl rfl) ?_
    refine V2.y (i := 4) (Nx2.of (Z := Cls w F [.obj pb0 [pt pb0_d 0, .int .i64 a0_from, .int .i64 a0_size, .int .i64 a0_epoch, .int .i64 a0_at, .int .i64 a0_seq, .bool a0_fell] 58, .obj pb0_d [p0_d_safe, p0_d_seen, p0_d_late, .int .i64 a0_d_left] 54, .sl p0_d_safe 9 1 (a0_d_safe.map SR), .sl p0_d_seen 9 1 (a0_d_seen.map SR), .sl p0_d_late 75 2 (a0_d_late.map Twrite.row)]) [] (by kernel_rfl) rfl (Zc.fin (fun _ hw => hw))) rfl rfl rfl (Y.move rfl) ?_
    refine V2.nilc (i := 5) (Nx2.of (Z := Cls w F [.obj pb0 [pt pb0_d 0, .int .i64 a0_from, .int .i64 a0_size, .int .i64 a0_epoch, .int .i64 a0_at, .int .i64 a0_seq, .bool a0_fell] 58, .obj pb0_d [p0_d_safe, p0_d_seen, p0_d_late, .int .i64 a0_d_left] 54, .sl p0_d_safe 9 1 (a0_d_safe.map SR), .sl p0_d_seen 9 1 (a0_d_seen.map SR), .sl p0_d_late 75 2 (a0_d_late.map Twrite.row)]) [] (by kernel_rfl) rfl (Zc.fin (fun _ hw => hw))) rfl rfl rfl ?_
    refine V2.y (i := 6) (Nx2.of (Z := Cls w F [.obj pb0 [pt pb0_d 0, .int .i64 a0_from, .int .i64 a0_size, .int .i64 a0_epoch, .int .i64 a0_at, .int .i64 a0_seq, .bool a0_fell] 58, .obj pb0_d [p0_d_safe, p0_d_seen, p0_d_late, .int .i64 a0_d_left] 54, .sl p0_d_safe 9 1 (a0_d_safe.map SR), .sl p0_d_seen 9 1 (a0_d_seen.map SR), .sl p0_d_late 75 2 (a0_d_late.map Twrite.row)]) [] (by kernel_rfl) rfl (Zc.fin (fun _ hw => hw))) rfl rfl rfl (Y.fieldP fd58_5 rfl) ?_
    refine V2.y (i := 7) (Nx2.of (Z := Cls w F [.obj pb0 [pt pb0_d 0, .int .i64 a0_from, .int .i64 a0_size, .int .i64 a0_epoch, .int .i64 a0_at, .int .i64 a0_seq, .bool a0_fell] 58, .obj pb0_d [p0_d_safe, p0_d_seen, p0_d_late, .int .i64 a0_d_left] 54, .sl p0_d_safe 9 1 (a0_d_safe.map SR), .sl p0_d_seen 9 1 (a0_d_seen.map SR), .sl p0_d_late 75 2 (a0_d_late.map Twrite.row)]) [] (by kernel_rfl) rfl (Zc.fin (fun _ hw => hw))) rfl rfl rfl (Y.loadP (i := 0) ag3 rfl rfl rfl) ?_
    refine V2.y (i := 8) (Nx2.of (Z := Cls w F [.obj pb0 [pt pb0_d 0, .int .i64 a0_from, .int .i64 a0_size, .int .i64 a0_epoch, .int .i64 a0_at, .int .i64 a0_seq, .bool a0_fell] 58, .obj pb0_d [p0_d_safe, p0_d_seen, p0_d_late, .int .i64 a0_d_left] 54, .sl p0_d_safe 9 1 (a0_d_safe.map SR), .sl p0_d_seen 9 1 (a0_d_seen.map SR), .sl p0_d_late 75 2 (a0_d_late.map Twrite.row)]) [] (by kernel_rfl) rfl (Zc.fin (fun _ hw => hw))) rfl rfl rfl (Y.move rfl) ?_
    refine V2.eff (i := 9) (by kernel_rfl) rfl ?_
    obtain ⟨l1, e3, h⟩ := bind1S h
    refine L.does rfl en32 rfl (fun w' hw => w32_wal_sectors a0_epoch a0_seq a1 w' _ e3) ?_
    rintro v2 _ ⟨_, rfl, rfl⟩
    refine L.nil (E.toV2 (stC [] [] (Cls w F [.sl v2 9 1 (l1.map SR), .obj pb0 [pt pb0_d 0, .int .i64 a0_from, .int .i64 a0_size, .int .i64 a0_epoch, .int .i64 a0_at, .int .i64 a0_seq, .bool a0_fell] 58, .obj pb0_d [p0_d_safe, p0_d_seen, p0_d_late, .int .i64 a0_d_left] 54, .sl p0_d_safe 9 1 (a0_d_safe.map SR), .sl p0_d_seen 9 1 (a0_d_seen.map SR), .sl p0_d_late 75 2 (a0_d_late.map Twrite.row)])) 9 (by kernel_rfl) (Sc.stayD (fun _ hw => hw.sel [1, 2, 3, 4, 5] (by decide) rfl)) (Sc.atD (fun _ hw => hw)) ?_)
    refine V2.y (i := 10) (Nx2.of (Z := Cls w F [.sl v2 9 1 (l1.map SR), .obj pb0 [pt pb0_d 0, .int .i64 a0_from, .int .i64 a0_size, .int .i64 a0_epoch, .int .i64 a0_at, .int .i64 a0_seq, .bool a0_fell] 58, .obj pb0_d [p0_d_safe, p0_d_seen, p0_d_late, .int .i64 a0_d_left] 54, .sl p0_d_safe 9 1 (a0_d_safe.map SR), .sl p0_d_seen 9 1 (a0_d_seen.map SR), .sl p0_d_late 75 2 (a0_d_late.map Twrite.row)]) [] (by kernel_rfl) rfl (Zc.fin (fun _ hw => hw))) rfl rfl rfl (Y.assign rfl) ?_
    refine V2.done (by kernel_rfl) ?_
    refine E.thenN (W.seqJ (fun gs D => gs = [(0, pt pb0 0), (5, v2)] ∧ D = Cls w F [.obj pb0 [pt pb0_d 0, .int .i64 a0_from, .int .i64 a0_size, .int .i64 a0_epoch, .int .i64 a0_at, .int .i64 a0_seq, .bool a0_fell] 58, .obj pb0_d [p0_d_safe, p0_d_seen, p0_d_late, .int .i64 a0_d_left] 54, .sl v2 9 1 (l1.map SR), .sl p0_d_safe 9 1 (a0_d_safe.map SR), .sl p0_d_seen 9 1 (a0_d_seen.map SR), .sl p0_d_late 75 2 (a0_d_late.map Twrite.row)] ∧ m9_wal_Log_Append_K3 l1 a0_from a0_at a0_d_safe a0_fell a0_seq a0_d_seen a0_d_late a0_d_left = some r) ?_ ?_)
    ·
     refine W.seq (W.quietC mixed (by kernel_rfl) (fun _ hw => hw.drew) (fun hC => ?_))
     refine U.y rfl (Y.move rfl) ?_
     refine U.y rfl (Y.nilCheck rfl) ?_
     refine U.y rfl (Y.fieldP fd58_4 rfl) ?_
     refine U.y rfl (Y.loadP (i := 1) ag3 rfl rfl rfl) ?_
     refine U.y rfl (Y.move rfl) ?_
     refine U.y rfl (Y.lenM (g := SR) (l := l1) Tryd.underlying30 rfl (fun w hw => As.at_ (hw.get (i := 0) rfl))) ?_
     refine U.m (V := fun x47 => .int .i64 x47) h rfl (Y.addM rfl rfl) (fun x47 ex47 h => ?_)
     refine U.y rfl (Y.move rfl) ?_
     refine U.y rfl (Y.nilCheck rfl) ?_
     refine U.y rfl (Y.fieldP fd58_2 rfl) ?_
     refine U.y rfl (Y.loadP (i := 1) ag3 rfl rfl rfl) ?_
     refine U.ite h rfl (Y.gtr rfl rfl) (fun c48 h => ?_) (fun c48 h => ?_)
     ·
      refine U.nil (E.thenN (W.condT rfl ?_))
      refine W.seq (W.region (L.y rfl (Y.assign rfl) ?_))
      refine L.nil (E.thenN (W.ret (E.KSR (E.ret1 rfl rfl (fun w1 hw => ?_)))))
      obtain rfl := Option.some.inj h
      exact ⟨_, _, rfl, ⟨_, _, _, rfl, rfl⟩, hw.sel [1, 2, 3, 4, 5] (by decide) rfl⟩
     ·
      refine U.nil (E.thenN (W.condF rfl ?_))
      exact W.skip (E.joinJ ⟨rfl, rfl, h⟩ ⟨rfl, rfl, trivial⟩ (fun _ hw => hw.sel [1, 2, 0, 3, 4, 5] (by decide) rfl))
    ·
     rintro _ _ ⟨rfl, rfl, h⟩
     rw [m9_wal_Log_Append_K3] at h
     refine W.seqJ (fun gs D => ∃ (gv1 : Value) (gl2 : (List (List UInt8))) (gv3 : Value) (gl4 : (List Twrite)) (gx5 : Int), gs = [(0, pt pb0 0), (5, v2)] ∧ D = Cls w F [.obj pb0 [pt pb0_d 0, .int .i64 a0_from, .int .i64 a0_size, .int .i64 a0_epoch, .int .i64 a0_at, .int .i64 a0_seq, .bool a0_fell] 58, .obj pb0_d [p0_d_safe, gv1, gv3, .int .i64 gx5] 54, .sl v2 9 1 (l1.map SR), .sl p0_d_safe 9 1 (a0_d_safe.map SR), .sl gv1 9 1 (gl2.map SR), .sl gv3 75 2 (gl4.map Twrite.row)] ∧ m9_wal_Log_Append_K4 a0_at l1 a0_seq a0_d_safe a0_fell gl2 gl4 gx5 = some r) ?_ ?_
     ·
      refine W.seq (W.region (L.y rfl (Y.move rfl) ?_))
      refine L.y rfl (Y.lenM (g := SR) (l := l1) Tryd.underlying30 rfl (fun w hw => As.at_ (hw.get (i := 2) rfl))) ?_
      refine L.y rfl (Y.move rfl) ?_
      refine L.nil (E.thenN (W.block (W.loopJ (fun m gs D => ∃ (gx6 : Int) (gv7 : Value) (gl8 : (List (List UInt8))) (gv9 : Value) (gl10 : (List Twrite)) (gx11 : Int), gs = [(0, pt pb0 0), (5, v2), (38, v2), (39, .int .i64 (l1.length : Int)), (40, .int .i64 gx6)] ∧ D = Cls w F [.obj pb0 [pt pb0_d 0, .int .i64 a0_from, .int .i64 a0_size, .int .i64 a0_epoch, .int .i64 a0_at, .int .i64 a0_seq, .bool a0_fell] 58, .obj pb0_d [p0_d_safe, gv7, gv9, .int .i64 gx11] 54, .sl v2 9 1 (l1.map SR), .sl p0_d_safe 9 1 (a0_d_safe.map SR), .sl gv7 9 1 (gl8.map SR), .sl gv9 75 2 (gl10.map Twrite.row)] ∧ m9_wal_Log_Append_L1 l1 a0_from a0_at a0_d_safe a0_fell a0_seq m gx6 gl8 gl10 gx11 = some r) ⟨0, p0_d_seen, a0_d_seen, p0_d_late, a0_d_late, a0_d_left, rfl, rfl, h⟩ ⟨rfl, rfl, rfl, rfl, rfl, trivial⟩ (fun _ hw => hw) ?_)))
      rintro m _ _ ⟨gx6, gv7, gl8, gv9, gl10, gx11, rfl, rfl, h⟩
      rcases m with _ | m
      · rw [m9_wal_Log_Append_L1] at h; cases h
      rw [m9_wal_Log_Append_L1] at h
      generalize hg1 : m9_wal_Log_Append_L1 l1 a0_from a0_at a0_d_safe a0_fell a0_seq m = go1 at h
      rw [m9_wal_Log_Append_L1B] at h
      refine W.seq (W.region (L.ite h rfl (Y.lss rfl rfl) (fun c6 h => ?_) (fun c6 h => ?_)))
      ·
       refine L.nil (E.thenN (W.seq (W.condT rfl ?_)))
       refine W.skip (E.thenN (W.seq (W.block (W.seq (W.region (L.y rfl (Y.move rfl) ?_))))))
       refine L.m (V := fun _ => el v2 (gx6.toNat * 1)) h rfl (Y.indexM (g := SR) (l := l1) Tryd.underlying30 sz9 rfl rfl (fun w hw => As.at_ (hw.get (i := 2) rfl))) (fun x7 ex7 h => ?_)
       refine L.y rfl (Y.loadE1 (u := st x7) ag9 rfl (fun w hw => As.at_ (hw.get (i := 2) rfl)) (idx_map ex7)) ?_
       refine L.y rfl (Y.assign rfl) ?_
       refine L.y rfl (Y.assign rfl) ?_
       refine L.nil (E.thenN (W.seq (W.drawn2 (k := 18) (stC [[16]] [Cls w F [.obj pb0 [pt pb0_d 0, .int .i64 a0_from, .int .i64 a0_size, .int .i64 a0_epoch, .int .i64 a0_at, .int .i64 a0_seq, .bool a0_fell] 58, .obj pb0_d [p0_d_safe, gv7, gv9, .int .i64 gx11] 54, .sl v2 9 1 (l1.map SR), .sl p0_d_safe 9 1 (a0_d_safe.map SR), .sl gv7 9 1 (gl8.map SR), .sl gv9 75 2 (gl10.map Twrite.row)]] (Cls w F [.obj pb0 [pt pb0_d 0, .int .i64 a0_from, .int .i64 a0_size, .int .i64 a0_epoch, .int .i64 a0_at, .int .i64 a0_seq, .bool a0_fell] 58, .sl v2 9 1 (l1.map SR), .sl p0_d_safe 9 1 (a0_d_safe.map SR)])) rfl mixed (fun _ hw => hw.drew) (Sc.now (by kernel_rfl) (fun _ hw => hw)) ?_)))
       refine V2.y (i := 0) (Nx2.of (Z := Cls w F [.obj pb0 [pt pb0_d 0, .int .i64 a0_from, .int .i64 a0_size, .int .i64 a0_epoch, .int .i64 a0_at, .int .i64 a0_seq, .bool a0_fell] 58, .sl v2 9 1 (l1.map SR), .sl p0_d_safe 9 1 (a0_d_safe.map SR)]) [] (by kernel_rfl) rfl (Zc.on (fun _ hw => hw.sel [0, 2, 3] (by decide) rfl) (Zc.fin (fun _ hw => hw)))) rfl rfl rfl (Y.move rfl) ?_
       refine V2.nilc (i := 1) (Nx2.of (Z := Cls w F [.obj pb0 [pt pb0_d 0, .int .i64 a0_from, .int .i64 a0_size, .int .i64 a0_epoch, .int .i64 a0_at, .int .i64 a0_seq, .bool a0_fell] 58, .sl v2 9 1 (l1.map SR), .sl p0_d_safe 9 1 (a0_d_safe.map SR)]) [] (by kernel_rfl) rfl (Zc.on (fun _ hw => hw.sel [0, 2, 3] (by decide) rfl) (Zc.fin (fun _ hw => hw)))) rfl rfl rfl ?_
       refine V2.y (i := 2) (Nx2.of (Z := Cls w F [.obj pb0 [pt pb0_d 0, .int .i64 a0_from, .int .i64 a0_size, .int .i64 a0_epoch, .int .i64 a0_at, .int .i64 a0_seq, .bool a0_fell] 58, .sl v2 9 1 (l1.map SR), .sl p0_d_safe 9 1 (a0_d_safe.map SR)]) [] (by kernel_rfl) rfl (Zc.on (fun _ hw => hw.sel [0, 2, 3] (by decide) rfl) (Zc.fin (fun _ hw => hw)))) rfl rfl rfl (Y.fieldP fd58_0 rfl) ?_
       refine V2.y (i := 3) (Nx2.of (Z := Cls w F [.obj pb0 [pt pb0_d 0, .int .i64 a0_from, .int .i64 a0_size, .int .i64 a0_epoch, .int .i64 a0_at, .int .i64 a0_seq, .bool a0_fell] 58, .sl v2 9 1 (l1.map SR), .sl p0_d_safe 9 1 (a0_d_safe.map SR)]) [] (by kernel_rfl) rfl (Zc.on (fun _ hw => hw.sel [0, 2, 3] (by decide) rfl) (Zc.fin (fun _ hw => hw)))) rfl rfl rfl (Y.loadP (i := 0) ag23 rfl rfl rfl) ?_
       refine V2.y (i := 4) (Nx2.of (Z := Cls w F [.obj pb0 [pt pb0_d 0, .int .i64 a0_from, .int .i64 a0_size, .int .i64 a0_epoch, .int .i64 a0_at, .int .i64 a0_seq, .bool a0_fell] 58, .sl v2 9 1 (l1.map SR), .sl p0_d_safe 9 1 (a0_d_safe.map SR)]) [] (by kernel_rfl) rfl (Zc.on (fun _ hw => hw.sel [0, 2, 3] (by decide) rfl) (Zc.fin (fun _ hw => hw)))) rfl rfl rfl (Y.move rfl) ?_
       refine V2.nilc (i := 5) (Nx2.of (Z := Cls w F [.obj pb0 [pt pb0_d 0, .int .i64 a0_from, .int .i64 a0_size, .int .i64 a0_epoch, .int .i64 a0_at, .int .i64 a0_seq, .bool a0_fell] 58, .sl v2 9 1 (l1.map SR), .sl p0_d_safe 9 1 (a0_d_safe.map SR)]) [] (by kernel_rfl) rfl (Zc.on (fun _ hw => hw.sel [0, 2, 3] (by decide) rfl) (Zc.fin (fun _ hw => hw)))) rfl rfl rfl ?_
       refine V2.y (i := 6) (Nx2.of (Z := Cls w F [.obj pb0 [pt pb0_d 0, .int .i64 a0_from, .int .i64 a0_size, .int .i64 a0_epoch, .int .i64 a0_at, .int .i64 a0_seq, .bool a0_fell] 58, .sl v2 9 1 (l1.map SR), .sl p0_d_safe 9 1 (a0_d_safe.map SR)]) [] (by kernel_rfl) rfl (Zc.on (fun _ hw => hw.sel [0, 2, 3] (by decide) rfl) (Zc.fin (fun _ hw => hw)))) rfl rfl rfl (Y.fieldP fd58_1 rfl) ?_
       refine V2.y (i := 7) (Nx2.of (Z := Cls w F [.obj pb0 [pt pb0_d 0, .int .i64 a0_from, .int .i64 a0_size, .int .i64 a0_epoch, .int .i64 a0_at, .int .i64 a0_seq, .bool a0_fell] 58, .sl v2 9 1 (l1.map SR), .sl p0_d_safe 9 1 (a0_d_safe.map SR)]) [] (by kernel_rfl) rfl (Zc.on (fun _ hw => hw.sel [0, 2, 3] (by decide) rfl) (Zc.fin (fun _ hw => hw)))) rfl rfl rfl (Y.loadP (i := 0) ag3 rfl rfl rfl) ?_
       refine V2.y (i := 8) (Nx2.of (Z := Cls w F [.obj pb0 [pt pb0_d 0, .int .i64 a0_from, .int .i64 a0_size, .int .i64 a0_epoch, .int .i64 a0_at, .int .i64 a0_seq, .bool a0_fell] 58, .sl v2 9 1 (l1.map SR), .sl p0_d_safe 9 1 (a0_d_safe.map SR)]) [] (by kernel_rfl) rfl (Zc.on (fun _ hw => hw.sel [0, 2, 3] (by decide) rfl) (Zc.fin (fun _ hw => hw)))) rfl rfl rfl (Y.move rfl) ?_
       refine V2.nilc (i := 9) (Nx2.of (Z := Cls w F [.obj pb0 [pt pb0_d 0, .int .i64 a0_from, .int .i64 a0_size, .int .i64 a0_epoch, .int .i64 a0_at, .int .i64 a0_seq, .bool a0_fell] 58, .sl v2 9 1 (l1.map SR), .sl p0_d_safe 9 1 (a0_d_safe.map SR)]) [] (by kernel_rfl) rfl (Zc.on (fun _ hw => hw.sel [0, 2, 3] (by decide) rfl) (Zc.fin (fun _ hw => hw)))) rfl rfl rfl ?_
       refine V2.y (i := 10) (Nx2.of (Z := Cls w F [.obj pb0 [pt pb0_d 0, .int .i64 a0_from, .int .i64 a0_size, .int .i64 a0_epoch, .int .i64 a0_at, .int .i64 a0_seq, .bool a0_fell] 58, .sl v2 9 1 (l1.map SR), .sl p0_d_safe 9 1 (a0_d_safe.map SR)]) [] (by kernel_rfl) rfl (Zc.on (fun _ hw => hw.sel [0, 2, 3] (by decide) rfl) (Zc.fin (fun _ hw => hw)))) rfl rfl rfl (Y.fieldP fd58_4 rfl) ?_
       refine V2.y (i := 11) (Nx2.of (Z := Cls w F [.obj pb0 [pt pb0_d 0, .int .i64 a0_from, .int .i64 a0_size, .int .i64 a0_epoch, .int .i64 a0_at, .int .i64 a0_seq, .bool a0_fell] 58, .sl v2 9 1 (l1.map SR), .sl p0_d_safe 9 1 (a0_d_safe.map SR)]) [] (by kernel_rfl) rfl (Zc.on (fun _ hw => hw.sel [0, 2, 3] (by decide) rfl) (Zc.fin (fun _ hw => hw)))) rfl rfl rfl (Y.loadP (i := 0) ag3 rfl rfl rfl) ?_
       refine V2.m (i := 12) (V' := fun x35 => .int .i64 x35) h (Nx2.of (Z := Cls w F [.obj pb0 [pt pb0_d 0, .int .i64 a0_from, .int .i64 a0_size, .int .i64 a0_epoch, .int .i64 a0_at, .int .i64 a0_seq, .bool a0_fell] 58, .sl v2 9 1 (l1.map SR), .sl p0_d_safe 9 1 (a0_d_safe.map SR)]) [] (by kernel_rfl) rfl (Zc.on (fun _ hw => hw.sel [0, 2, 3] (by decide) rfl) (Zc.fin (fun _ hw => hw)))) rfl rfl rfl (Y.addM rfl rfl) (fun x35 ex35 h => ?_)
       refine V2.y (i := 13) (Nx2.of (Z := Cls w F [.obj pb0 [pt pb0_d 0, .int .i64 a0_from, .int .i64 a0_size, .int .i64 a0_epoch, .int .i64 a0_at, .int .i64 a0_seq, .bool a0_fell] 58, .sl v2 9 1 (l1.map SR), .sl p0_d_safe 9 1 (a0_d_safe.map SR)]) [] (by kernel_rfl) rfl (Zc.on (fun _ hw => hw.sel [0, 2, 3] (by decide) rfl) (Zc.fin (fun _ hw => hw)))) rfl rfl rfl (Y.move rfl) ?_
       refine V2.m (i := 14) (V' := fun x36 => .int .i64 x36) h (Nx2.of (Z := Cls w F [.obj pb0 [pt pb0_d 0, .int .i64 a0_from, .int .i64 a0_size, .int .i64 a0_epoch, .int .i64 a0_at, .int .i64 a0_seq, .bool a0_fell] 58, .sl v2 9 1 (l1.map SR), .sl p0_d_safe 9 1 (a0_d_safe.map SR)]) [] (by kernel_rfl) rfl (Zc.on (fun _ hw => hw.sel [0, 2, 3] (by decide) rfl) (Zc.fin (fun _ hw => hw)))) rfl rfl rfl (Y.addM rfl rfl) (fun x36 ex36 h => ?_)
       refine V2.y (i := 15) (Nx2.of (Z := Cls w F [.obj pb0 [pt pb0_d 0, .int .i64 a0_from, .int .i64 a0_size, .int .i64 a0_epoch, .int .i64 a0_at, .int .i64 a0_seq, .bool a0_fell] 58, .sl v2 9 1 (l1.map SR), .sl p0_d_safe 9 1 (a0_d_safe.map SR)]) [] (by kernel_rfl) rfl (Zc.on (fun _ hw => hw.sel [0, 2, 3] (by decide) rfl) (Zc.fin (fun _ hw => hw)))) rfl rfl rfl (Y.move rfl) ?_
       refine V2.eff (i := 16) (by kernel_rfl) rfl ?_
       refine L.to (D := Cls w F [.obj pb0_d [p0_d_safe, gv7, gv9, .int .i64 gx11] 54, .sl p0_d_safe 9 1 (a0_d_safe.map SR), .sl gv7 9 1 (gl8.map SR), .sl gv9 75 2 (gl10.map Twrite.row), .obj pb0 [pt pb0_d 0, .int .i64 a0_from, .int .i64 a0_size, .int .i64 a0_epoch, .int .i64 a0_at, .int .i64 a0_seq, .bool a0_fell] 58, .sl v2 9 1 (l1.map SR)]) (fun _ hw => hw.sel [1, 3, 4, 5, 0, 2] (by decide) rfl) ?_
       obtain ⟨l37, l38, x39, x40, e41, h⟩ := bind4S h
       refine L.doesP (A := [.obj pb0_d [p0_d_safe, gv7, gv9, .int .i64 gx11] 54, .sl p0_d_safe 9 1 (a0_d_safe.map SR), .sl gv7 9 1 (gl8.map SR), .sl gv9 75 2 (gl10.map Twrite.row)]) (M := [.obj pb0 [pt pb0_d 0, .int .i64 a0_from, .int .i64 a0_size, .int .i64 a0_epoch, .int .i64 a0_at, .int .i64 a0_seq, .bool a0_fell] 58, .sl v2 9 1 (l1.map SR)]) rfl en33 rfl (fun w' hw => w33_sect_Disk_Write a0_d_safe gl8 gl10 gx11 x36 x7 pb0_d p0_d_safe gv7 gv9 w' _ e41 _ hw.lend) ?_
       rintro _ _ ⟨v42, v43, rfl, rfl⟩
       refine L.to (D := Cls w F [.obj pb0_d [p0_d_safe, v42, v43, .int .i64 x39] 54, .sl p0_d_safe 9 1 (a0_d_safe.map SR), .sl v42 9 1 (l37.map SR), .sl v43 75 2 (l38.map Twrite.row), .obj pb0 [pt pb0_d 0, .int .i64 a0_from, .int .i64 a0_size, .int .i64 a0_epoch, .int .i64 a0_at, .int .i64 a0_seq, .bool a0_fell] 58, .sl v2 9 1 (l1.map SR)]) (fun _ hw => hw) ?_
       refine L.nil (E.toV2 (stC [] [] (Cls w F [.sl p0_d_safe 9 1 (a0_d_safe.map SR), .sl v42 9 1 (l37.map SR), .sl v43 75 2 (l38.map Twrite.row), .obj pb0 [pt pb0_d 0, .int .i64 a0_from, .int .i64 a0_size, .int .i64 a0_epoch, .int .i64 a0_at, .int .i64 a0_seq, .bool a0_fell] 58, .sl v2 9 1 (l1.map SR)])) 16 (by kernel_rfl) (Sc.past rfl (Sc.stayD (fun _ hw => hw.sel [3, 4, 0] (by decide) rfl))) (Sc.atD (fun _ hw => hw.sel [1, 2, 3, 4, 5] (by decide) rfl)) ?_)
       refine V2.y (i := 17) (Nx2.of (Z := Cls w F [.sl p0_d_safe 9 1 (a0_d_safe.map SR), .sl v42 9 1 (l37.map SR), .sl v43 75 2 (l38.map Twrite.row), .obj pb0 [pt pb0_d 0, .int .i64 a0_from, .int .i64 a0_size, .int .i64 a0_epoch, .int .i64 a0_at, .int .i64 a0_seq, .bool a0_fell] 58, .sl v2 9 1 (l1.map SR)]) [] (by kernel_rfl) rfl (Zc.fin (fun _ hw => hw))) rfl rfl rfl (Y.assign rfl) ?_
       refine V2.done (by kernel_rfl) ?_
       refine E.thenN (W.seq (W.region (L.y rfl (Y.move rfl) ?_)))
       refine L.ite h rfl (Y.neq rfl rfl) (fun c44 h => ?_) (fun c44 h => ?_)
       ·
        refine L.nil (E.thenN (W.condT rfl ?_))
        refine W.seq (W.region (L.y rfl (Y.move rfl) ?_))
        refine L.y rfl (Y.move rfl) ?_
        refine L.callJ (fun v D => ∃ (gb12 : Bool), v = .int .i64 x40 ∧ D = Cls w F [.obj pb0_d [p0_d_safe, v42, v43, .int .i64 x39] 54, .obj pb0 [pt pb0_d 0, .int .i64 a0_from, .int .i64 a0_size, .int .i64 a0_epoch, .int .i64 a0_at, .int .i64 a0_seq, .bool gb12] 58, .sl p0_d_safe 9 1 (a0_d_safe.map SR), .sl v42 9 1 (l37.map SR), .sl v43 75 2 (l38.map Twrite.row)] ∧ m9_wal_Log_Append_K5 a0_d_safe l37 l38 x39 a0_at a0_seq x40 gb12 = some r) rfl en34 rfl Tryd.func34 rfl rfl rfl ?_ ?_
        ·
         refine W.seq (W.region (L.y rfl (Y.assign rfl) ?_))
         refine L.nil (E.thenN (W.seq (W.region (L.y rfl (Y.move rfl) ?_))))
         refine L.y rfl (Y.move rfl) ?_
         refine L.y rfl (Y.nilCheck rfl) ?_
         refine L.y rfl (Y.fieldP fd58_6 rfl) ?_
         refine L.iteB h rfl (Y.loadP (i := 4) ag4 rfl rfl rfl) (fun c45 h => ?_) (fun c45 h => ?_)
         ·
          refine L.y rfl (Y.move rfl) ?_
          refine L.pass rfl rfl (by nofun) ?_
          refine L.pass rfl rfl (by nofun) ?_
          refine L.y rfl (Y.pickT rfl rfl) ?_
          refine L.y rfl (Y.nilCheck rfl) ?_
          refine L.y rfl (Y.fieldP fd58_6 rfl) ?_
          refine L.store (i := 4) (vs := [.bool true]) sz4 rfl rfl rfl rfl (by simp [Value.oneCell', Value.cells, st, pt, el]) rfl (Nat.le_of_ble_eq_true rfl) ?_
          refine L.nil (E.thenN (W.seq (W.region (L.y rfl (Y.move rfl) ?_))))
          refine L.y rfl (Y.assign rfl) ?_
          refine L.nil (E.thenN (W.ret (E.ret1 rfl rfl (fun w1 hw => ?_))))
          exact ⟨_, _, rfl, ⟨true, rfl, rfl, h⟩, hw.sel [0, 4, 1, 2, 3] (by decide) rfl⟩
         ·
          refine L.y rfl (Y.move rfl) ?_
          refine L.take rfl (L.y rfl (Y.move rfl) ?_)
          refine L.take rfl (L.y rfl (Y.neq rfl rfl) ?_)
          refine L.y rfl (Y.pickF rfl rfl) ?_
          refine L.y rfl (Y.nilCheck rfl) ?_
          refine L.y rfl (Y.fieldP fd58_6 rfl) ?_
          refine L.store (i := 4) (vs := [.bool (decide (x40 ≠ 0))]) sz4 rfl rfl rfl rfl (by simp [Value.oneCell', Value.cells, st, pt, el]) rfl (Nat.le_of_ble_eq_true rfl) ?_
          refine L.nil (E.thenN (W.seq (W.region (L.y rfl (Y.move rfl) ?_))))
          refine L.y rfl (Y.assign rfl) ?_
          refine L.nil (E.thenN (W.ret (E.ret1 rfl rfl (fun w1 hw => ?_))))
          exact ⟨_, _, rfl, ⟨decide (x40 ≠ 0), rfl, rfl, h⟩, hw.sel [0, 4, 1, 2, 3] (by decide) rfl⟩
        ·
         rintro _ _ ⟨gb12, rfl, rfl, h⟩
         rw [m9_wal_Log_Append_K5] at h
         refine L.y rfl (Y.assign rfl) ?_
         refine L.nil (E.thenN (W.ret (E.blockR (E.thenR (E.KLR (E.blockR (E.KSR (E.ret1 rfl rfl (fun w1 hw => ?_)))))))))
         obtain rfl := Option.some.inj h
         exact ⟨_, _, rfl, ⟨_, _, _, rfl, rfl⟩, hw.sel [1, 0, 2, 3, 4] (by decide) rfl⟩
       ·
        refine L.nil (E.thenN (W.condF rfl ?_))
        refine W.skip (E.blockN (E.thenN (W.region (L.m (V := fun x46 => .int .i64 x46) h rfl (Y.addM rfl rfl) (fun x46 ex46 h => ?_)))))
        refine L.y rfl (Y.move rfl) ?_
        exact L.nil (E.againJ ⟨x46, v42, l37, v43, l38, x39, rfl, rfl, by rw [hg1]; exact h⟩ (Nat.lt_succ_self _) ⟨rfl, rfl, rfl, rfl, rfl, trivial⟩ (fun _ hw => hw.sel [4, 0, 5, 1, 2, 3] (by decide) rfl))
      ·
       refine L.nil (E.thenN (W.seq (W.condF rfl ?_)))
       exact W.exit (E.thenX (E.KLX (E.blockX (E.joinJ ⟨gv7, gl8, gv9, gl10, gx11, rfl, rfl, h⟩ ⟨rfl, rfl, trivial⟩ (fun _ hw => hw)))))
     ·
      rintro _ _ ⟨gv1, gl2, gv3, gl4, gx5, rfl, rfl, h⟩
      rw [m9_wal_Log_Append_K4] at h
      refine W.seq (W.region (L.y rfl (Y.move rfl) ?_))
      refine L.y rfl (Y.nilCheck rfl) ?_
      refine L.y rfl (Y.fieldP fd58_4 rfl) ?_
      refine L.y rfl (Y.loadP (i := 0) ag3 rfl rfl rfl) ?_
      refine L.y rfl (Y.move rfl) ?_
      refine L.y rfl (Y.lenM (g := SR) (l := l1) Tryd.underlying30 rfl (fun w hw => As.at_ (hw.get (i := 2) rfl))) ?_
      refine L.m (V := fun x4 => .int .i64 x4) h rfl (Y.addM rfl rfl) (fun x4 ex4 h => ?_)
      refine L.y rfl (Y.nilCheck rfl) ?_
      refine L.y rfl (Y.fieldP fd58_4 rfl) ?_
      refine L.store (i := 0) (vs := [.int .i64 x4]) sz3 rfl rfl rfl rfl (by simp [Value.oneCell', Value.cells, st, pt, el]) rfl (Nat.le_of_ble_eq_true rfl) ?_
      refine L.nil (E.thenN (W.seq (W.region (L.y rfl (Y.move rfl) ?_))))
      refine L.y rfl (Y.nilCheck rfl) ?_
      refine L.y rfl (Y.fieldP fd58_5 rfl) ?_
      refine L.y rfl (Y.loadP (i := 0) ag3 rfl rfl rfl) ?_
      refine L.m (V := fun x5 => .int .i64 x5) h rfl (Y.addM rfl rfl) (fun x5 ex5 h => ?_)
      refine L.y rfl (Y.nilCheck rfl) ?_
      refine L.y rfl (Y.fieldP fd58_5 rfl) ?_
      refine L.store (i := 0) (vs := [.int .i64 x5]) sz3 rfl rfl rfl rfl (by simp [Value.oneCell', Value.cells, st, pt, el]) rfl (Nat.le_of_ble_eq_true rfl) ?_
      refine L.nil (E.thenN (W.seq (W.region (L.y rfl (Y.assign rfl) ?_))))
      refine L.nil (E.thenN (W.ret (E.ret1 rfl rfl (fun w1 hw => ?_))))
      obtain rfl := Option.some.inj h
      exact ⟨_, _, rfl, ⟨_, _, _, rfl, rfl⟩, hw.sel [0, 1, 3, 4, 5] (by decide) rfl⟩
set_option maxRecDepth 100000 in
set_option maxHeartbeats 8000000 in
theorem w65_quirref_Text (a0 : (List UInt8)) (w : World) (r : (List UInt8)) (h : m65_quirref_Text a0 = some r) : Does Tryd.prog 65 [st a0] w fun u m => u = st r ∧ m = [] := by
  rw [m65_quirref_Text] at h
  refine body (n := 9) Tryd.func65 rfl rfl rfl (Cls.refl w) ?_
  refine W.seq (W.region (L.y rfl (Y.assign rfl) ?_))
  refine L.nil (E.thenN (W.seq (W.region (L.y rfl (Y.move rfl) ?_))))
  refine L.y rfl (Y.lenS Tryd.underlying9 rfl) ?_
  refine L.y rfl (Y.conv Tryd.underlying3 Tryd.underlying95 rfl) ?_
  obtain ⟨s1, e2, h⟩ := bind1S h
  refine L.y rfl (Y.does en83 rfl (fun w' hw => (w83_quirref_Nat (IntKind.wrap .u64 (a0.length : Int)) w' _ e2).mono (fun _ _ h => h.1))) ?_
  refine L.y rfl (Y.move rfl) ?_
  refine L.m (V := fun s3 => st s3) h rfl (Y.catM rfl rfl) (fun s3 es3 h => ?_)
  refine L.y rfl (Y.assign rfl) ?_
  refine L.nil (E.thenN (W.ret (E.ret1 rfl rfl (fun w1 hw => ?_))))
  obtain rfl := Option.some.inj h
  exact ⟨_, _, rfl, ⟨rfl, rfl⟩, hw⟩
set_option maxRecDepth 100000 in
set_option maxHeartbeats 8000000 in
theorem w35_quirref_recordSectors (a0 : Int) (a1 : Int) (a2 : (List UInt8)) (w : World) (r : (List (List UInt8))) (h : m35_quirref_recordSectors a0 a1 a2 = some r) : Does Tryd.prog 35 [.int .i64 a0, .int .i64 a1, st a2] w fun u m => ∃ v0, u = v0 ∧ m = [.sl v0 9 1 (r.map SR)] := by
  rw [m35_quirref_recordSectors] at h
  refine body (n := 50) Tryd.func35 rfl rfl rfl (Cls.refl w) ?_
  refine W.seq (W.region (L.y rfl (Y.assign rfl) ?_))
  refine L.nil (E.thenN (W.seq (W.region (L.y rfl (Y.move rfl) ?_))))
  obtain ⟨s1, e2, h⟩ := bind1S h
  refine L.y rfl (Y.does en65 rfl (fun w' hw => (w65_quirref_Text a2 w' _ e2).mono (fun _ _ h => h.1))) ?_
  obtain ⟨s3, x4, e5, h⟩ := bind2S h
  refine L.y rfl (Y.does en64 rfl (fun w' hw => (w64_quirref_FoldPut s1 w' _ e5).mono (fun _ _ h => h.1))) ?_
  refine L.y rfl (Y.move rfl) ?_
  refine L.y rfl (Y.extract rfl rfl) ?_
  refine L.y rfl (Y.extract rfl rfl) ?_
  refine L.y rfl (Y.assign rfl) ?_
  refine L.y rfl (Y.assign rfl) ?_
  refine L.nil (E.thenN (W.seq (W.region (L.y rfl (Y.assign rfl) ?_))))
  refine L.nil (E.thenN (W.seqJ (fun gs D => ∃ (gv1 : Value) (gl2 : (List (List UInt8))), gs = [(9, gv1)] ∧ D = Cls w [] [.sl gv1 9 1 (gl2.map SR)] ∧ m35_quirref_recordSectors_K1 gl2 = some r) ?_ ?_))
  ·
   refine W.block (W.nilSl 9 1 ?_)
   refine W.loopJ (fun m gs D => ∃ (gs3 : (List UInt8)) (gv4 : Value) (gl5 : (List (List UInt8))), gs = [(0, .int .i64 a0), (1, .int .i64 a1), (7, st gs3), (9, gv4)] ∧ D = Cls w [] [.sl gv4 9 1 (gl5.map SR)] ∧ m35_quirref_recordSectors_L1 a0 a1 m gs3 gl5 = some r) ⟨s3, .slice none 0 0, [], rfl, rfl, h⟩ ⟨rfl, rfl, rfl, rfl, trivial⟩ (fun _ hw => hw) ?_
   rintro m _ _ ⟨gs3, gv4, gl5, rfl, rfl, h⟩
   rcases m with _ | m
   · rw [m35_quirref_recordSectors_L1] at h; cases h
   rw [m35_quirref_recordSectors_L1] at h
   generalize hg1 : m35_quirref_recordSectors_L1 a0 a1 m = go1 at h
   rw [m35_quirref_recordSectors_L1B] at h
   refine W.seqJ (fun gs D => gs = [(0, .int .i64 a0), (1, .int .i64 a1), (7, st gs3), (9, gv4)] ∧ D = Cls w [] [.sl gv4 9 1 (gl5.map SR)] ∧ m35_quirref_recordSectors_K2 a0 a1 gl5 gs3 go1 = some r) ?_ ?_
   ·
    refine W.seq (W.region (L.y rfl (Y.move rfl) ?_))
    refine L.ite h rfl (Y.neqS rfl rfl) (fun c25 h => ?_) (fun c25 h => ?_)
    ·
     refine L.nil (E.thenN (W.condT rfl ?_))
     exact W.skip (E.joinJ ⟨rfl, rfl, h⟩ ⟨rfl, rfl, rfl, rfl, trivial⟩ (fun _ hw => hw))
    ·
     refine L.nil (E.thenN (W.condF rfl ?_))
     exact W.exit (E.KSX (E.KLX (E.blockX (E.joinJ ⟨gv4, gl5, rfl, rfl, h⟩ ⟨rfl, trivial⟩ (fun _ hw => hw)))))
   ·
    rintro _ _ ⟨rfl, rfl, h⟩
    rw [m35_quirref_recordSectors_K2] at h
    refine W.block (W.seq (W.region (L.y rfl (Y.move rfl) ?_)))
    refine L.y rfl (Y.move rfl) ?_
    obtain ⟨s6, e7, h⟩ := bind1S h
    refine L.y rfl (Y.does en59 rfl (fun w' hw => (w59_quirref_headOf 2 a0 a1 w' _ e7).mono (fun _ _ h => h.1))) ?_
    refine L.y rfl (Y.assign rfl) ?_
    refine L.nil (E.thenN (W.seqJ (fun gs D => ∃ (gs6 : (List UInt8)), gs = [(0, .int .i64 a0), (1, .int .i64 a1), (7, st gs3), (9, gv4), (10, st gs6)] ∧ D = Cls w [] [.sl gv4 9 1 (gl5.map SR)] ∧ m35_quirref_recordSectors_K3 gs3 gl5 go1 gs6 = some r) ?_ ?_))
    ·
     refine W.seq (W.region (L.y rfl (Y.move rfl) ?_))
     refine L.y rfl (Y.lenM (g := SR) (l := gl5) Tryd.underlying30 rfl (fun w hw => As.at_ (hw.get (i := 0) rfl))) ?_
     refine L.ite h rfl (Y.eql rfl rfl) (fun c22 h => ?_) (fun c22 h => ?_)
     ·
      refine L.nil (E.thenN (W.condT rfl ?_))
      refine W.region (L.y rfl (Y.move rfl) ?_)
      refine L.y rfl (Y.move rfl) ?_
      obtain ⟨s23, e24, h⟩ := bind1S h
      refine L.y rfl (Y.does en59 rfl (fun w' hw => (w59_quirref_headOf 1 a0 a1 w' _ e24).mono (fun _ _ h => h.1))) ?_
      refine L.y rfl (Y.assign rfl) ?_
      exact L.nil (E.joinJ ⟨s23, rfl, rfl, h⟩ ⟨rfl, rfl, rfl, rfl, rfl, trivial⟩ (fun _ hw => hw))
     ·
      refine L.nil (E.thenN (W.condF rfl ?_))
      exact W.skip (E.joinJ ⟨s6, rfl, rfl, h⟩ ⟨rfl, rfl, rfl, rfl, rfl, trivial⟩ (fun _ hw => hw))
    ·
     rintro _ _ ⟨gs6, rfl, rfl, h⟩
     rw [m35_quirref_recordSectors_K3] at h
     refine W.seq (W.region (L.y rfl (Y.move rfl) ?_))
     refine L.y rfl (Y.lenS Tryd.underlying9 rfl) ?_
     refine L.m (V := fun x8 => .int .i64 x8) h rfl (Y.subM rfl rfl) (fun x8 ex8 h => ?_)
     refine L.y rfl (Y.assign rfl) ?_
     refine L.nil (E.thenN (W.seqJ (fun gs D => ∃ (gx7 : Int), gs = [(0, .int .i64 a0), (1, .int .i64 a1), (7, st gs3), (9, gv4), (10, st gs6), (11, .int .i64 gx7)] ∧ D = Cls w [] [.sl gv4 9 1 (gl5.map SR)] ∧ m35_quirref_recordSectors_K4 gs3 gs6 gl5 go1 gx7 = some r) ?_ ?_))
     ·
      refine W.seq (W.region (L.y rfl (Y.move rfl) ?_))
      refine L.y rfl (Y.move rfl) ?_
      refine L.y rfl (Y.lenS Tryd.underlying9 rfl) ?_
      refine L.ite h rfl (Y.gtr rfl rfl) (fun c21 h => ?_) (fun c21 h => ?_)
      ·
       refine L.nil (E.thenN (W.condT rfl ?_))
       refine W.region (L.y rfl (Y.move rfl) ?_)
       refine L.y rfl (Y.lenS Tryd.underlying9 rfl) ?_
       refine L.y rfl (Y.assign rfl) ?_
       exact L.nil (E.joinJ ⟨(gs3.length : Int), rfl, rfl, h⟩ ⟨rfl, rfl, rfl, rfl, rfl, rfl, trivial⟩ (fun _ hw => hw))
      ·
       refine L.nil (E.thenN (W.condF rfl ?_))
       exact W.skip (E.joinJ ⟨x8, rfl, rfl, h⟩ ⟨rfl, rfl, rfl, rfl, rfl, rfl, trivial⟩ (fun _ hw => hw))
     ·
      rintro _ _ ⟨gx7, rfl, rfl, h⟩
      rw [m35_quirref_recordSectors_K4] at h
      refine W.drawn2 (k := 13) (stC [[7]] [Cls w [] [.sl gv4 9 1 (gl5.map SR)]] (Cls w [] [])) rfl mixed (fun _ hw => hw.drew) (Sc.now (by kernel_rfl) (fun _ hw => hw)) ?_
      refine V2.y (i := 0) (Nx2.of (Z := Cls w [] []) [] (by kernel_rfl) rfl (Zc.on (fun _ hw => hw.sel [] (by decide) rfl) (Zc.fin (fun _ hw => hw)))) rfl rfl rfl (Y.move rfl) ?_
      refine V2.y (i := 1) (Nx2.of (Z := Cls w [] []) [] (by kernel_rfl) rfl (Zc.on (fun _ hw => hw.sel [] (by decide) rfl) (Zc.fin (fun _ hw => hw)))) rfl rfl rfl (Y.move rfl) ?_
      refine V2.y (i := 2) (Nx2.of (Z := Cls w [] []) [] (by kernel_rfl) rfl (Zc.on (fun _ hw => hw.sel [] (by decide) rfl) (Zc.fin (fun _ hw => hw)))) rfl rfl rfl (Y.move rfl) ?_
      refine V2.y (i := 3) (Nx2.of (Z := Cls w [] []) [] (by kernel_rfl) rfl (Zc.on (fun _ hw => hw.sel [] (by decide) rfl) (Zc.fin (fun _ hw => hw)))) rfl rfl rfl (Y.move rfl) ?_
      refine V2.m (i := 4) (V' := fun s15 => st s15) h (Nx2.of (Z := Cls w [] []) [] (by kernel_rfl) rfl (Zc.on (fun _ hw => hw.sel [] (by decide) rfl) (Zc.fin (fun _ hw => hw)))) rfl rfl rfl (Y.sliceSH Tryd.underlying9 rfl rfl) (fun s15 es15 h => ?_)
      refine V2.y (i := 8) (Nx2.of (Z := Cls w [] []) [] (by kernel_rfl) rfl (Zc.on (fun _ hw => hw.sel [] (by decide) rfl) (Zc.fin (fun _ hw => hw)))) rfl rfl rfl (Y.move rfl) ?_
      refine V2.y (i := 9) (Nx2.of (Z := Cls w [] []) [] (by kernel_rfl) rfl (Zc.on (fun _ hw => hw.sel [] (by decide) rfl) (Zc.fin (fun _ hw => hw)))) rfl rfl rfl (Y.move rfl) ?_
      refine V2.m (i := 10) (V' := fun s16 => st s16) h (Nx2.of (Z := Cls w [] []) [] (by kernel_rfl) rfl (Zc.on (fun _ hw => hw.sel [] (by decide) rfl) (Zc.fin (fun _ hw => hw)))) rfl rfl rfl (Y.sliceSL Tryd.underlying9 rfl rfl) (fun s16 es16 h => ?_)
      refine V2.m (i := 5) (V' := fun s17 => st s17) h (Nx2.of (Z := Cls w [] []) [] (by kernel_rfl) rfl (Zc.on (fun _ hw => hw.sel [] (by decide) rfl) (Zc.fin (fun _ hw => hw)))) rfl rfl rfl (Y.catM rfl rfl) (fun s17 es17 h => ?_)
      refine V2.eff (i := 6) (by kernel_rfl) rfl ?_
      refine L.litOne rfl Tryd.underlying30 eL9 rfl rfl ?_
      intro b18
      refine L.nil (E.toV2 (stC [[7]] [Cls w [] [.sl (sv b18 1) 9 1 (([s17]).map SR), .sl gv4 9 1 (gl5.map SR)]] (Cls w [] [.sl (sv b18 1) 9 1 (([s17]).map SR)])) 6 (by kernel_rfl) (Sc.stay (fun _ hw => hw.sel [1] (by decide) rfl) (Sc.stayD (fun _ hw => hw.sel [] (by decide) rfl))) (Sc.now (by kernel_rfl) (fun _ hw => hw)) ?_)
      refine V2.eff (i := 7) (by kernel_rfl) rfl ?_
      refine L.appM (i := 1) (g := SR) (l := gl5) (more := [s17]) h rfl Tryd.underlying30 eL9 rfl rfl rfl (fun w hw => As.at_ (hw.get (i := 0) rfl)) (plain_SR _) rfl ?_
      intro v19 l20 el20 h
      refine L.nil (E.toV2 (stC [] [] (Cls w [] [.sl v19 9 1 (l20.map SR), .sl (sv b18 1) 9 1 (([s17]).map SR)])) 7 (by kernel_rfl) (Sc.past rfl (Sc.stayD (fun _ hw => hw.sel [1] (by decide) rfl))) (Sc.atD (fun _ hw => hw)) ?_)
      refine V2.y (i := 11) (Nx2.of (Z := Cls w [] [.sl v19 9 1 (l20.map SR), .sl (sv b18 1) 9 1 (([s17]).map SR)]) [] (by kernel_rfl) rfl (Zc.fin (fun _ hw => hw))) rfl rfl rfl (Y.assign rfl) ?_
      refine V2.y (i := 12) (Nx2.of (Z := Cls w [] [.sl v19 9 1 (l20.map SR), .sl (sv b18 1) 9 1 (([s17]).map SR)]) [] (by kernel_rfl) rfl (Zc.fin (fun _ hw => hw))) rfl rfl rfl (Y.assign rfl) ?_
      refine V2.done (by kernel_rfl) ?_
      exact E.blockN (E.againJ ⟨s16, v19, l20, rfl, rfl, by rw [hg1]; exact h⟩ (Nat.lt_succ_self _) ⟨rfl, rfl, rfl, rfl, trivial⟩ (fun _ hw => hw.sel [0] (by decide) rfl))
  ·
   rintro _ _ ⟨gv1, gl2, rfl, rfl, h⟩
   rw [m35_quirref_recordSectors_K1] at h
   refine W.seq (W.region (L.y rfl (Y.move rfl) ?_))
   refine L.y rfl (Y.assign rfl) ?_
   refine L.nil (E.thenN (W.ret (E.ret1 rfl rfl (fun w1 hw => ?_))))
   obtain rfl := Option.some.inj h
   exact ⟨_, _, rfl, ⟨_, rfl, rfl⟩, hw⟩
end Go.Proofs.YtinchlfaepjfiaaDoor
