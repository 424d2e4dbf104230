/-
  Walks, printed by a program of mine.
  Conditions: none.
-/
import Derived.Test.YtgkdimboofglfaaLyM
import Derived.Test.YtgkdimboofglfaaChecked
import Derived.KernelRfl
import Derived.Test.YtgkdimboofglfaaLkO
namespace Go.Proofs.Ytgkdimboofglfaa
open Go.S
set_option linter.unusedVariables false
set_option linter.unusedSimpArgs false
theorem mixed : Try.prog.follows .mixedOrders = true := by kernel_rfl
theorem ag3 : aggB Try.prog 3 false = true := by kernel_rfl
theorem ag45 : aggB Try.prog 45 true = true := by kernel_rfl
theorem ag48 : aggB Try.prog 48 false = true := by kernel_rfl
theorem ag50 : aggB Try.prog 50 true = true := by kernel_rfl
theorem ag55 : aggB Try.prog 55 true = true := by kernel_rfl
theorem ag62 : aggB Try.prog 62 false = true := by kernel_rfl
theorem eL3 : elemB Try.prog 3 1 8 = true := by kernel_rfl
theorem eL50 : elemB Try.prog 50 3 56 = true := by kernel_rfl
theorem eL55 : elemB Try.prog 55 2 16 = true := by kernel_rfl
theorem en6 : entB Try.prog 6 = true := by kernel_rfl
theorem en7 : entB Try.prog 7 = true := by kernel_rfl
theorem en9 : entB Try.prog 9 = true := by kernel_rfl
theorem en12 : entB Try.prog 12 = true := by kernel_rfl
theorem en13 : entB Try.prog 13 = true := by kernel_rfl
theorem en14 : entB Try.prog 14 = true := by kernel_rfl
theorem en15 : entB Try.prog 15 = true := by kernel_rfl
theorem en16 : entB Try.prog 16 = true := by kernel_rfl
theorem en18 : entB Try.prog 18 = true := by kernel_rfl
theorem en19 : entB Try.prog 19 = true := by kernel_rfl
theorem en20 : entB Try.prog 20 = true := by kernel_rfl
theorem en21 : entB Try.prog 21 = true := by kernel_rfl
theorem en22 : entB Try.prog 22 = true := by kernel_rfl
theorem en23 : entB Try.prog 23 = true := by kernel_rfl
theorem en24 : entB Try.prog 24 = true := by kernel_rfl
theorem en25 : entB Try.prog 25 = true := by kernel_rfl
theorem en26 : entB Try.prog 26 = true := by kernel_rfl
theorem en27 : entB Try.prog 27 = true := by kernel_rfl
theorem en28 : entB Try.prog 28 = true := by kernel_rfl
theorem en29 : entB Try.prog 29 = true := by kernel_rfl
theorem en30 : entB Try.prog 30 = true := by kernel_rfl
theorem en31 : entB Try.prog 31 = true := by kernel_rfl
theorem en32 : entB Try.prog 32 = true := by kernel_rfl
theorem en33 : entB Try.prog 33 = true := by kernel_rfl
theorem en34 : entB Try.prog 34 = true := by kernel_rfl
theorem en35 : entB Try.prog 35 = true := by kernel_rfl
theorem en37 : entB Try.prog 37 = true := by kernel_rfl
theorem en38 : entB Try.prog 38 = true := by kernel_rfl
theorem en39 : entB Try.prog 39 = true := by kernel_rfl
theorem en40 : entB Try.prog 40 = true := by kernel_rfl
theorem en41 : entB Try.prog 41 = true := by kernel_rfl
theorem en42 : entB Try.prog 42 = true := by kernel_rfl
theorem en43 : entB Try.prog 43 = true := by kernel_rfl
theorem en44 : entB Try.prog 44 = true := by kernel_rfl
theorem en45 : entB Try.prog 45 = true := by kernel_rfl
theorem en46 : entB Try.prog 46 = true := by kernel_rfl
theorem en47 : entB Try.prog 47 = true := by kernel_rfl
theorem en50 : entB Try.prog 50 = true := by kernel_rfl
theorem en53 : entB Try.prog 53 = true := by kernel_rfl
theorem en54 : entB Try.prog 54 = true := by kernel_rfl
theorem fd45_0 : fieldB Try.prog 45 0 0 = true := by kernel_rfl
theorem fd45_1 : fieldB Try.prog 45 1 1 = true := by kernel_rfl
theorem fd45_2 : fieldB Try.prog 45 2 2 = true := by kernel_rfl
theorem fd50_0 : fieldB Try.prog 50 0 0 = true := by kernel_rfl
theorem fd50_1 : fieldB Try.prog 50 1 1 = true := by kernel_rfl
theorem fd50_2 : fieldB Try.prog 50 2 2 = true := by kernel_rfl
theorem fd55_0 : fieldB Try.prog 55 0 0 = true := by kernel_rfl
theorem fd55_1 : fieldB Try.prog 55 1 1 = true := by kernel_rfl
theorem sz3 : szB Try.prog 3 1 = true := by kernel_rfl
theorem sz45 : szB Try.prog 45 3 = true := by kernel_rfl
theorem sz48 : szB Try.prog 48 1 = true := by kernel_rfl
theorem sz50 : szB Try.prog 50 3 = true := by kernel_rfl
theorem sz55 : szB Try.prog 55 2 = true := by kernel_rfl
theorem sz62 : szB Try.prog 62 1 = true := by kernel_rfl
theorem ze3 : zeroB Try.prog 3 = some [.int .i64 0] := by kernel_rfl
theorem ze45 : zeroB Try.prog 45 = some [.int .i64 0, .int .i64 0, .int .i64 0] := by kernel_rfl
theorem ze50 : zeroB Try.prog 50 = some [.int .i64 0, .slice none 0 0, .slice none 0 0] := by kernel_rfl
theorem ze55 : zeroB Try.prog 55 = some [.int .i64 0, .int .i64 0] := by kernel_rfl
theorem ze62 : zeroB Try.prog 62 = some [.pointer none] := by kernel_rfl
theorem ze89 : zeroB Try.prog 89 = some (List.replicate 12 (.int .i64 0)) := by kernel_rfl
theorem plain_TLock (l : List TLock) : Plain (l.map TLock.row) := by
  intro r hr u hu
  obtain ⟨x, _, rfl⟩ := List.mem_map.1 hr
  simp only [TLock.row, List.mem_cons, List.not_mem_nil, or_false] at hu
  rcases hu with rfl | rfl <;> rfl
theorem plain_TOp (l : List TOp) : Plain (l.map TOp.row) := by
  intro r hr u hu
  obtain ⟨x, _, rfl⟩ := List.mem_map.1 hr
  simp only [TOp.row, List.mem_cons, List.not_mem_nil, or_false] at hu
  rcases hu with rfl | rfl | rfl <;> rfl
theorem plz_TLockItem : PlZ TLockItem.rowv TLockItem.sds := by
  intro x v h u hu
  simp only [TLockItem.rowv, List.mem_cons, List.not_mem_nil, or_false] at hu
  rcases hu with rfl | rfl | rfl
  · rfl
  · exact h ⟨gv v 0, 55, 2, x.Held.map TLock.row⟩ (by simp [TLockItem.sds])
  · exact h ⟨gv v 1, 55, 2, x.Queue.map TLock.row⟩ (by simp [TLockItem.sds])
theorem eg55 : Try.prog.eqGuardType Try.prog.depth 55 = false := by kernel_rfl
theorem sh55 (x : TLock) : shB Try.prog 5 55 x.row = true := by kernel_rfl
theorem inj55 (x y : TLock) (h : x.row = y.row) : x = y := by
  cases x; cases y
  simpa [TLock.row, st_inj] using h
set_option maxRecDepth 100000 in
set_option maxHeartbeats 8000000 in
theorem w18_lock_isMode (a0 : Int) (w : World) (r : Bool) (h : m18_lock_isMode a0 = some r) : Does Try.prog 18 [.int .i64 a0] w fun u m => u = .bool r ∧ m = [] := by
  rw [m18_lock_isMode] at h
  refine body (n := 9) Try.func18 rfl rfl rfl (Cls.refl w) ?_
  refine W.seq (W.region (L.y rfl (Y.assign rfl) ?_))
  refine L.nil (E.thenN (W.seq (W.region (L.y rfl (Y.move rfl) ?_))))
  refine L.ite h rfl (Y.geq rfl rfl) (fun c1 h => ?_) (fun c1 h => ?_)
  ·
   refine L.y rfl (Y.move rfl) ?_
   refine L.take rfl (L.y rfl (Y.move rfl) ?_)
   refine L.take rfl (L.y rfl (Y.leq rfl rfl) ?_)
   refine L.y rfl (Y.pickT rfl rfl) ?_
   refine L.y rfl (Y.assign rfl) ?_
   refine L.nil (E.thenN (W.ret (E.ret1 rfl rfl (fun w1 hw => ?_))))
   obtain rfl := Option.some.inj h
   exact ⟨_, _, rfl, ⟨rfl, rfl⟩, hw⟩
  ·
   refine L.y rfl (Y.move rfl) ?_
   refine L.pass rfl rfl (by nofun) ?_
   refine L.pass rfl rfl (by nofun) ?_
   refine L.y rfl (Y.pickF rfl rfl) ?_
   refine L.y rfl (Y.assign rfl) ?_
   refine L.nil (E.thenN (W.ret (E.ret1 rfl rfl (fun w1 hw => ?_))))
   obtain rfl := Option.some.inj h
   exact ⟨_, _, rfl, ⟨rfl, rfl⟩, hw⟩
set_option maxRecDepth 100000 in
set_option maxHeartbeats 8000000 in
theorem w33_lock_fits (a0 : Int) (w : World) (r : Int) (h : m33_lock_fits a0 = some r) : Does Try.prog 33 [.int .i64 a0] w fun u m => u = .int .i64 r ∧ m = [] := by
  rw [m33_lock_fits] at h
  refine body (n := 12) Try.func33 rfl rfl rfl (Cls.refl w) ?_
  refine W.seq (W.region (L.y rfl (Y.assign rfl) ?_))
  refine L.nil (E.thenN (W.seq (W.seq (W.region (L.y rfl (Y.move rfl) ?_)))))
  refine L.nil (E.thenN (W.block (W.seq (W.region (L.ite h rfl (Y.eql rfl rfl) (fun c1 h => ?_) (fun c1 h => ?_))))))
  ·
   refine L.y rfl (Y.assign rfl) ?_
   refine L.nil (E.thenN (W.condT rfl ?_))
   refine W.seq (W.region (L.y rfl (Y.assign rfl) ?_))
   refine L.nil (E.thenN (W.ret (E.blockR (E.thenR (E.ret1 rfl rfl (fun w1 hw => ?_))))))
   obtain rfl := Option.some.inj h
   exact ⟨_, _, rfl, ⟨rfl, rfl⟩, hw⟩
  ·
   refine L.y rfl (Y.assign rfl) ?_
   refine L.nil (E.thenN (W.condF rfl ?_))
   refine W.seq (W.region (L.ite h rfl (Y.eql rfl rfl) (fun c2 h => ?_) (fun c2 h => ?_)))
   ·
    refine L.y rfl (Y.assign rfl) ?_
    refine L.nil (E.thenN (W.condT rfl ?_))
    refine W.seq (W.region (L.y rfl (Y.assign rfl) ?_))
    refine L.nil (E.thenN (W.ret (E.blockR (E.thenR (E.ret1 rfl rfl (fun w1 hw => ?_))))))
    obtain rfl := Option.some.inj h
    exact ⟨_, _, rfl, ⟨rfl, rfl⟩, hw⟩
   ·
    refine L.y rfl (Y.assign rfl) ?_
    refine L.nil (E.thenN (W.condF rfl ?_))
    refine W.seq (W.region (L.ite h rfl (Y.eql rfl rfl) (fun c3 h => ?_) (fun c3 h => ?_)))
    ·
     refine L.y rfl (Y.assign rfl) ?_
     refine L.nil (E.thenN (W.condT rfl ?_))
     refine W.seq (W.region (L.y rfl (Y.assign rfl) ?_))
     refine L.nil (E.thenN (W.ret (E.blockR (E.thenR (E.ret1 rfl rfl (fun w1 hw => ?_))))))
     obtain rfl := Option.some.inj h
     exact ⟨_, _, rfl, ⟨rfl, rfl⟩, hw⟩
    ·
     refine L.y rfl (Y.assign rfl) ?_
     refine L.nil (E.thenN (W.condF rfl ?_))
     refine W.seq (W.region (L.ite h rfl (Y.eql rfl rfl) (fun c4 h => ?_) (fun c4 h => ?_)))
     ·
      refine L.y rfl (Y.assign rfl) ?_
      refine L.nil (E.thenN (W.condT rfl ?_))
      refine W.seq (W.region (L.y rfl (Y.assign rfl) ?_))
      refine L.nil (E.thenN (W.ret (E.blockR (E.thenR (E.ret1 rfl rfl (fun w1 hw => ?_))))))
      obtain rfl := Option.some.inj h
      exact ⟨_, _, rfl, ⟨rfl, rfl⟩, hw⟩
     ·
      refine L.y rfl (Y.assign rfl) ?_
      refine L.nil (E.thenN (W.condF rfl ?_))
      refine W.skip (E.blockN (E.thenN (W.seq (W.region (L.y rfl (Y.assign rfl) ?_)))))
      refine L.nil (E.thenN (W.ret (E.ret1 rfl rfl (fun w1 hw => ?_))))
      obtain rfl := Option.some.inj h
      exact ⟨_, _, rfl, ⟨rfl, rfl⟩, hw⟩
set_option maxRecDepth 100000 in
set_option maxHeartbeats 8000000 in
theorem w53_lock_Join (a0 : Int) (a1 : Int) (w : World) (r : (Int × Int)) (h : m53_lock_Join a0 a1 = some r) : Does Try.prog 53 [.int .i64 a0, .int .i64 a1] w fun u m => u = .tuple #[.int .i64 r.1, .int .i64 r.2] ∧ m = [] := by
  rw [m53_lock_Join] at h
  refine body (n := 29) Try.func53 rfl rfl rfl (Cls.refl w) ?_
  refine W.seq (W.region (L.y rfl (Y.assign rfl) ?_))
  refine L.y rfl (Y.assign rfl) ?_
  refine L.nil (E.thenN (W.seqJ (fun gs D => gs = [(0, .int .i64 a0), (1, .int .i64 a1)] ∧ D = Cls w [] [] ∧ m53_lock_Join_K1 a0 a1 = some r) ?_ ?_))
  ·
   refine W.seq (W.region (L.y rfl (Y.move rfl) ?_))
   obtain ⟨b3, e4, h⟩ := bind1S h
   refine L.y rfl (Y.does en18 rfl (fun w' hw => (w18_lock_isMode a0 w' _ e4).mono (fun _ _ h => h.1))) ?_
   rcases b3 with _ | _
   ·
    replace h := iteF h
    refine L.y rfl (Y.not rfl) ?_
    refine L.y rfl (Y.move rfl) ?_
    refine L.pass rfl rfl (by nofun) ?_
    refine L.pass rfl rfl (by nofun) ?_
    refine L.pass rfl rfl (by nofun) ?_
    refine L.y rfl (Y.pickT rfl rfl) ?_
    refine L.nil (E.thenN (W.condT rfl ?_))
    refine W.seq (W.region (L.y rfl (Y.assign rfl) ?_))
    refine L.y rfl (Y.assign rfl) ?_
    refine L.nil (E.thenN (W.ret (E.KSR (E.ret2 rfl rfl rfl (fun w1 hw => ?_)))))
    obtain rfl := Option.some.inj h
    exact ⟨_, _, rfl, ⟨rfl, rfl⟩, hw⟩
   ·
    replace h := iteT h
    refine L.y rfl (Y.not rfl) ?_
    refine L.y rfl (Y.move rfl) ?_
    refine L.take rfl (L.y rfl (Y.move rfl) ?_)
    refine L.take rfl ?_
    obtain ⟨b5, e6, h⟩ := bind1S h
    refine L.y rfl (Y.does en18 rfl (fun w' hw => (w18_lock_isMode a1 w' _ e6).mono (fun _ _ h => h.1))) ?_
    rcases b5 with _ | _
    ·
     replace h := iteF h
     refine L.take rfl (L.y rfl (Y.not rfl) ?_)
     refine L.y rfl (Y.pickF rfl rfl) ?_
     refine L.nil (E.thenN (W.condT rfl ?_))
     refine W.seq (W.region (L.y rfl (Y.assign rfl) ?_))
     refine L.y rfl (Y.assign rfl) ?_
     refine L.nil (E.thenN (W.ret (E.KSR (E.ret2 rfl rfl rfl (fun w1 hw => ?_)))))
     obtain rfl := Option.some.inj h
     exact ⟨_, _, rfl, ⟨rfl, rfl⟩, hw⟩
    ·
     replace h := iteT h
     refine L.take rfl (L.y rfl (Y.not rfl) ?_)
     refine L.y rfl (Y.pickF rfl rfl) ?_
     refine L.nil (E.thenN (W.condF rfl ?_))
     exact W.skip (E.joinJ ⟨rfl, rfl, h⟩ ⟨rfl, rfl, trivial⟩ (fun _ hw => hw))
  ·
   rintro _ _ ⟨rfl, rfl, h⟩
   rw [m53_lock_Join_K1] at h
   refine W.seq (W.region (L.y rfl (Y.move rfl) ?_))
   refine L.y rfl (Y.move rfl) ?_
   refine L.y rfl (Y.min2 rfl rfl) ?_
   refine L.y rfl (Y.move rfl) ?_
   refine L.y rfl (Y.move rfl) ?_
   refine L.y rfl (Y.max2 rfl rfl) ?_
   refine L.y rfl (Y.assign rfl) ?_
   refine L.y rfl (Y.assign rfl) ?_
   refine L.nil (E.thenN (W.seq (W.seq (W.region (L.y rfl (Y.move rfl) ?_)))))
   refine L.ite h rfl (Y.eql rfl rfl) (fun c1 h => ?_) (fun c1 h => ?_)
   ·
    refine L.y rfl (Y.move rfl) ?_
    refine L.take rfl (L.y rfl (Y.move rfl) ?_)
    refine L.take rfl (L.ite h rfl (Y.eql rfl rfl) (fun c2 h => ?_) (fun c2 h => ?_))
    ·
     refine L.y rfl (Y.pickT rfl rfl) ?_
     refine L.nil (E.thenN (W.condT rfl ?_))
     refine W.seq (W.region (L.y rfl (Y.assign rfl) ?_))
     refine L.y rfl (Y.assign rfl) ?_
     refine L.nil (E.thenN (W.ret (E.thenR (E.ret2 rfl rfl rfl (fun w1 hw => ?_)))))
     obtain rfl := Option.some.inj h
     exact ⟨_, _, rfl, ⟨rfl, rfl⟩, hw⟩
    ·
     refine L.y rfl (Y.pickT rfl rfl) ?_
     refine L.nil (E.thenN (W.condF rfl ?_))
     refine W.skip (E.thenN (W.seq (W.region (L.y rfl (Y.move rfl) ?_))))
     refine L.y rfl (Y.assign rfl) ?_
     refine L.y rfl (Y.assign rfl) ?_
     refine L.nil (E.thenN (W.ret (E.ret2 rfl rfl rfl (fun w1 hw => ?_))))
     obtain rfl := Option.some.inj h
     exact ⟨_, _, rfl, ⟨rfl, rfl⟩, hw⟩
   ·
    refine L.y rfl (Y.move rfl) ?_
    refine L.pass rfl rfl (by nofun) ?_
    refine L.pass rfl rfl (by nofun) ?_
    refine L.y rfl (Y.pickF rfl rfl) ?_
    refine L.nil (E.thenN (W.condF rfl ?_))
    refine W.skip (E.thenN (W.seq (W.region (L.y rfl (Y.move rfl) ?_))))
    refine L.y rfl (Y.assign rfl) ?_
    refine L.y rfl (Y.assign rfl) ?_
    refine L.nil (E.thenN (W.ret (E.ret2 rfl rfl rfl (fun w1 hw => ?_))))
    obtain rfl := Option.some.inj h
    exact ⟨_, _, rfl, ⟨rfl, rfl⟩, hw⟩
set_option maxRecDepth 100000 in
set_option maxHeartbeats 8000000 in
theorem w32_lock_wish (a0 : TLockItem) (a1 : TLock) (u0_0 : Value) (u0_1 : Value) (w : World) (r : Int) (h : m32_lock_wish a0 a1 = some r) (hA0_0 : At w u0_0 2 (a0.Held.map TLock.row)) (hA0_1 : At w u0_1 2 (a0.Queue.map TLock.row)) : Does Try.prog 32 [.agg #[.int .i64 a0.Item, u0_0, u0_1], .agg #[.int .i64 a1.Tx, .int .i64 a1.Mode]] w fun u m => u = .int .i64 r ∧ m = [] := by
  rw [m32_lock_wish] at h
  refine body (n := 33) Try.func32 rfl rfl rfl (Cls.refl w) ?_
  refine W.seq (W.region (L.box rfl rfl ?_))
  intro b1
  refine L.box rfl rfl ?_
  intro b2
  refine L.y rfl (Y.assign rfl) ?_
  refine L.nil (E.thenN (W.seqJ (fun gs D => gs = [(3, pt b2 0)] ∧ D = Cls w [] [.obj b2 [.int .i64 a1.Tx, .int .i64 a1.Mode] 55] ∧ m32_lock_wish_K1 a1 = some r) ?_ ?_))
  ·
   refine W.seq (W.region (L.y rfl (Y.fieldP fd50_1 rfl) ?_))
   refine L.y rfl (Y.loadP (i := 1) ag48 rfl rfl rfl) ?_
   refine L.y rfl (Y.lenM (g := TLock.row) (l := a0.Held) Try.underlying48 rfl (fun w' hw => hA0_0.cls0 hw)) ?_
   refine L.y rfl (Y.move rfl) ?_
   refine L.nil (E.thenN (W.block (W.loopJ (fun m gs D => ∃ (gx1 : Int), gs = [(3, pt b2 0), (10, u0_0), (11, .int .i64 (a0.Held.length : Int)), (12, .int .i64 gx1)] ∧ D = Cls w [] [.obj b2 [.int .i64 a1.Tx, .int .i64 a1.Mode] 55] ∧ m32_lock_wish_L1 a0 a1 m gx1 = some r) ⟨0, rfl, rfl, h⟩ ⟨rfl, rfl, rfl, rfl, trivial⟩ (fun _ hw => hw.sel [0] (by decide) rfl) ?_)))
   rintro m _ _ ⟨gx1, rfl, rfl, h⟩
   rcases m with _ | m
   · rw [m32_lock_wish_L1] at h; cases h
   rw [m32_lock_wish_L1] at h
   generalize hg1 : m32_lock_wish_L1 a0 a1 m = go1 at h
   rw [m32_lock_wish_L1B] at h
   refine W.seq (W.region (L.ite h rfl (Y.lss rfl rfl) (fun c3 h => ?_) (fun c3 h => ?_)))
   ·
    refine L.nil (E.thenN (W.seq (W.condT rfl ?_)))
    refine W.skip (E.thenN (W.seq (W.block (W.seq (W.region (L.m (V := fun _ => el u0_0 (gx1.toNat * 2)) h rfl (Y.indexM (g := TLock.row) (l := a0.Held) Try.underlying48 sz55 rfl rfl (fun w' hw => hA0_0.cls0 hw)) (fun x4 ex4 h => ?_)))))))
    refine L.y rfl (Y.loadEN (r := [.int .i64 x4.Tx, .int .i64 x4.Mode]) ag55 sz55 rfl (fun w' hw => hA0_0.cls0 hw) (idx_map ex4) rfl) ?_
    refine L.alloc rfl ze55 ?_
    intro b5
    refine L.store (i := 0) (vs := [.int .i64 x4.Tx, .int .i64 x4.Mode]) sz55 rfl rfl rfl rfl (by simp [Value.oneCell', Value.cells, st, pt, el]) rfl (Nat.le_of_ble_eq_true rfl) ?_
    refine L.nil (E.thenN (W.seq (W.region (L.y rfl (Y.fieldP fd55_0 rfl) ?_))))
    refine L.y rfl (Y.loadP (i := 0) ag3 rfl rfl rfl) ?_
    refine L.y rfl (Y.fieldP fd55_0 rfl) ?_
    refine L.y rfl (Y.loadP (i := 1) ag3 rfl rfl rfl) ?_
    refine L.ite h rfl (Y.eql rfl rfl) (fun c6 h => ?_) (fun c6 h => ?_)
    ·
     refine L.nil (E.thenN (W.condT rfl ?_))
     refine W.seq (W.region (L.y rfl (Y.fieldP fd55_1 rfl) ?_))
     refine L.y rfl (Y.loadP (i := 0) ag3 rfl rfl rfl) ?_
     refine L.y rfl (Y.fieldP fd55_1 rfl) ?_
     refine L.y rfl (Y.loadP (i := 1) ag3 rfl rfl rfl) ?_
     obtain ⟨x7, x8, e9, h⟩ := bind2S h
     refine L.y rfl (Y.does en53 rfl (fun w' hw => (w53_lock_Join x4.Mode a1.Mode w' _ e9).mono (fun _ _ h => h.1))) ?_
     refine L.y rfl (Y.move rfl) ?_
     refine L.y rfl (Y.extract rfl rfl) ?_
     refine L.y rfl (Y.extract rfl rfl) ?_
     refine L.y rfl (Y.assign rfl) ?_
     refine L.y rfl (Y.assign rfl) ?_
     refine L.nil (E.thenN (W.seq (W.region (L.y rfl (Y.move rfl) ?_))))
     refine L.y rfl (Y.assign rfl) ?_
     refine L.nil (E.thenN (W.ret (E.blockR (E.thenR (E.KLR (E.blockR (E.KSR (E.ret1 rfl rfl (fun w1 hw => ?_)))))))))
     obtain rfl := Option.some.inj h
     exact ⟨_, _, rfl, ⟨rfl, rfl⟩, hw.sel [] (by decide) rfl⟩
    ·
     refine L.nil (E.thenN (W.condF rfl ?_))
     refine W.skip (E.blockN (E.thenN (W.region (L.m (V := fun x10 => .int .i64 x10) h rfl (Y.addM rfl rfl) (fun x10 ex10 h => ?_)))))
     refine L.y rfl (Y.move rfl) ?_
     exact L.nil (E.againJ ⟨x10, rfl, rfl, by rw [hg1]; exact h⟩ (Nat.lt_succ_self _) ⟨rfl, rfl, rfl, rfl, trivial⟩ (fun _ hw => hw.sel [1] (by decide) rfl))
   ·
    refine L.nil (E.thenN (W.seq (W.condF rfl ?_)))
    exact W.exit (E.thenX (E.KLX (E.blockX (E.joinJ ⟨rfl, rfl, h⟩ ⟨rfl, trivial⟩ (fun _ hw => hw)))))
  ·
   rintro _ _ ⟨rfl, rfl, h⟩
   rw [m32_lock_wish_K1] at h
   refine W.seq (W.region (L.y rfl (Y.fieldP fd55_1 rfl) ?_))
   refine L.y rfl (Y.loadP (i := 0) ag3 rfl rfl rfl) ?_
   refine L.y rfl (Y.assign rfl) ?_
   refine L.nil (E.thenN (W.ret (E.ret1 rfl rfl (fun w1 hw => ?_))))
   obtain rfl := Option.some.inj h
   exact ⟨_, _, rfl, ⟨rfl, rfl⟩, hw.sel [] (by decide) rfl⟩
set_option maxRecDepth 100000 in
set_option maxHeartbeats 8000000 in
theorem w26_lock_can (a0 : TLockItem) (a1 : TLock) (u0_0 : Value) (u0_1 : Value) (w : World) (r : Bool) (h : m26_lock_can a0 a1 = some r) (hA0_0 : At w u0_0 2 (a0.Held.map TLock.row)) (hA0_1 : At w u0_1 2 (a0.Queue.map TLock.row)) : Does Try.prog 26 [.agg #[.int .i64 a0.Item, u0_0, u0_1], .agg #[.int .i64 a1.Tx, .int .i64 a1.Mode]] w fun u m => u = .bool r ∧ m = [] := by
  rw [m26_lock_can] at h
  refine body (n := 14) Try.func26 rfl rfl rfl (Cls.refl w) ?_
  refine W.seq (W.region (L.box rfl rfl ?_))
  intro b1
  refine L.box rfl rfl ?_
  intro b2
  refine L.y rfl (Y.assign rfl) ?_
  refine L.nil (E.thenN (W.seq (W.region (L.y rfl (Y.loadPW (i := 1) ag50 sz50 rfl rfl rfl) ?_))))
  refine L.y rfl (Y.loadPW (i := 0) ag55 sz55 rfl rfl rfl) ?_
  obtain ⟨x3, e4, h⟩ := bind1S h
  refine L.y rfl (Y.does en32 rfl (fun w' hw => (w32_lock_wish a0 a1 u0_0 u0_1 w' _ e4 (hA0_0.cls0 hw) (hA0_1.cls0 hw)).mono (fun _ _ h => h.1))) ?_
  refine L.alloc rfl ze3 ?_
  intro b5
  refine L.store (i := 0) (vs := [.int .i64 x3]) sz3 rfl rfl rfl rfl (by simp [Value.oneCell', Value.cells, st, pt, el]) rfl (Nat.le_of_ble_eq_true rfl) ?_
  refine L.nil (E.thenN (W.seq (W.region (L.y rfl (Y.fieldP fd50_1 rfl) ?_))))
  refine L.y rfl (Y.loadP (i := 2) ag48 rfl rfl rfl) ?_
  refine L.y rfl (Y.func rfl) ?_
  refine L.callJ (fun v D => ∃ (gb1 : Bool), v = .bool gb1 ∧ D = Cls w [] [] ∧ m26_lock_can_K1 gb1 = some r) rfl en19 rfl Try.func19 rfl rfl rfl ?_ ?_
  ·
   refine W.seq (W.region (L.y rfl (Y.assign rfl) ?_))
   refine L.nil (E.thenN (W.seq (W.region (L.y rfl (Y.move rfl) ?_))))
   refine L.y rfl (Y.move rfl) ?_
   refine L.callJ (fun v D => ∃ (gx2 : Int), v = .int .i64 gx2 ∧ D = Cls w [] [] ∧ m26_lock_can_K2 gx2 = some r) rfl en35 rfl Try.func35 rfl rfl rfl ?_ ?_
   ·
    refine W.seq (W.region (L.y rfl (Y.assign rfl) ?_))
    refine L.nil (E.thenN (W.seqJ (fun gs D => gs = [] ∧ D = Cls w [] [] ∧ m26_lock_can_K3 = some r) ?_ ?_))
    ·
     refine W.seq (W.region (L.y rfl (Y.move rfl) ?_))
     refine L.y rfl (Y.lenM (g := TLock.row) (l := a0.Held) Try.underlying48 rfl (fun w' hw => hA0_0.cls0 hw)) ?_
     refine L.y rfl (Y.move rfl) ?_
     refine L.nil (E.thenN (W.block (W.loopJ (fun m gs D => ∃ (gx3 : Int), gs = [(0, u0_0), (1, .func (.func 50) #[] #[pt b2 0, pt b5 0]), (7, .int .i64 (a0.Held.length : Int)), (8, .int .i64 gx3)] ∧ D = Cls w [] [.obj b5 [.int .i64 x3] 3, .obj b2 [.int .i64 a1.Tx, .int .i64 a1.Mode] 55] ∧ m26_lock_can_L1 a0 a1 x3 m gx3 = some r) ⟨0, rfl, rfl, h⟩ ⟨rfl, rfl, rfl, rfl, trivial⟩ (fun _ hw => hw.sel [0, 1] (by decide) rfl) ?_)))
     rintro m _ _ ⟨gx3, rfl, rfl, h⟩
     rcases m with _ | m
     · rw [m26_lock_can_L1] at h; cases h
     rw [m26_lock_can_L1] at h
     generalize hg1 : m26_lock_can_L1 a0 a1 x3 m = go1 at h
     rw [m26_lock_can_L1B] at h
     refine W.seq (W.region (L.ite h rfl (Y.lss rfl rfl) (fun c6 h => ?_) (fun c6 h => ?_)))
     ·
      refine L.nil (E.thenN (W.seq (W.condT rfl ?_)))
      refine W.skip (E.thenN (W.seq (W.block (W.seq (W.region (L.y rfl (Y.move rfl) ?_))))))
      refine L.y rfl (Y.assign rfl) ?_
      refine L.nil (E.thenN (W.seq (W.region (L.y rfl (Y.move rfl) ?_))))
      refine L.y rfl (Y.move rfl) ?_
      refine L.y rfl (Y.move rfl) ?_
      refine L.m (V := fun _ => el u0_0 (gx3.toNat * 2)) h rfl (Y.indexM (g := TLock.row) (l := a0.Held) Try.underlying48 sz55 rfl rfl (fun w' hw => hA0_0.cls0 hw)) (fun x7 ex7 h => ?_)
      refine L.y rfl (Y.loadEN (r := [.int .i64 x7.Tx, .int .i64 x7.Mode]) ag55 sz55 rfl (fun w' hw => hA0_0.cls0 hw) (idx_map ex7) rfl) ?_
      refine L.callVJ (fun v D => ∃ (gb4 : Bool), v = .bool gb4 ∧ D = Cls w [] [.obj b5 [.int .i64 x3] 3, .obj b2 [.int .i64 a1.Tx, .int .i64 a1.Mode] 55] ∧ m26_lock_can_K4 gx3 go1 gb4 = some r) rfl en50 rfl rfl Try.func50 rfl rfl rfl ?_ ?_
      ·
       refine W.seq (W.region (L.box rfl rfl ?_))
       intro b9
       refine L.y rfl (Y.assign rfl) ?_
       refine L.nil (E.thenN (W.seq (W.quietC mixed (by kernel_rfl) (fun _ hw => hw.drew) (fun hC => ?_))))
       refine U.y rfl (Y.fieldP fd55_0 rfl) ?_
       refine U.y rfl (Y.loadP (i := 0) ag3 rfl rfl rfl) ?_
       refine U.y rfl (Y.fieldP fd55_0 rfl) ?_
       refine U.y rfl (Y.loadP (i := 2) ag3 rfl rfl rfl) ?_
       refine U.ite h rfl (Y.neq rfl rfl) (fun c10 h => ?_) (fun c10 h => ?_)
       ·
        refine U.y rfl (Y.move rfl) ?_
        refine U.take rfl (U.y rfl (Y.loadP (i := 1) ag3 rfl rfl rfl) ?_)
        refine U.take rfl ?_
        obtain ⟨x11, e12, h⟩ := bind1S h
        refine U.y rfl (Y.does en33 rfl (fun w' hw => (w33_lock_fits x3 w' _ e12).mono (fun _ _ h => h.1))) ?_
        refine U.take rfl (U.y rfl (Y.fieldP fd55_1 rfl) ?_)
        refine U.take rfl (U.y rfl (Y.loadP (i := 0) ag3 rfl rfl rfl) ?_)
        refine U.take rfl (U.m (V := fun x13 => .int .i64 x13) h rfl (Y.shrM rfl rfl) (fun x13 ex13 h => ?_))
        refine U.take rfl (U.y rfl (Y.and rfl rfl) ?_)
        refine U.take rfl (U.y rfl (Y.eql rfl rfl) ?_)
        refine U.y rfl (Y.pickT rfl rfl) ?_
        refine U.y rfl (Y.assign rfl) ?_
        refine U.nil (E.thenN (W.ret (E.ret1 rfl rfl (fun w1 hw => ?_))))
        exact ⟨_, _, rfl, ⟨decide ((Go.bits .and .i64 x13 1) = 0), rfl, rfl, h⟩, hw.sel [1, 2] (by decide) rfl⟩
       ·
        refine U.y rfl (Y.move rfl) ?_
        refine U.pass rfl rfl (by nofun) ?_
        refine U.pass rfl rfl (by nofun) ?_
        refine U.pass rfl rfl (by nofun) ?_
        refine U.pass rfl rfl (by nofun) ?_
        refine U.pass rfl rfl (by nofun) ?_
        refine U.pass rfl rfl (by nofun) ?_
        refine U.pass rfl rfl (by nofun) ?_
        refine U.y rfl (Y.pickF rfl rfl) ?_
        refine U.y rfl (Y.assign rfl) ?_
        refine U.nil (E.thenN (W.ret (E.ret1 rfl rfl (fun w1 hw => ?_))))
        exact ⟨_, _, rfl, ⟨false, rfl, rfl, h⟩, hw.sel [1, 2] (by decide) rfl⟩
      ·
       rintro _ _ ⟨gb4, rfl, rfl, h⟩
       rw [m26_lock_can_K4] at h
       rcases gb4 with _ | _
       ·
        replace h := iteF h
        refine L.nil (E.thenN (W.condF rfl ?_))
        refine W.skip (E.blockN (E.thenN (W.region (L.m (V := fun x8 => .int .i64 x8) h rfl (Y.addM rfl rfl) (fun x8 ex8 h => ?_)))))
        refine L.y rfl (Y.move rfl) ?_
        exact L.nil (E.againJ ⟨x8, rfl, rfl, by rw [hg1]; exact h⟩ (Nat.lt_succ_self _) ⟨rfl, rfl, rfl, rfl, trivial⟩ (fun _ hw => hw))
       ·
        replace h := iteT h
        refine L.nil (E.thenN (W.condT rfl ?_))
        refine W.seq (W.region (L.y rfl (Y.move rfl) ?_))
        refine L.y rfl (Y.assign rfl) ?_
        refine L.nil (E.thenN (W.ret (E.blockR (E.thenR (E.KLR (E.blockR (E.KSR (E.ret1 rfl rfl (fun w1 hw => ?_)))))))))
        exact ⟨_, _, rfl, ⟨gx3, rfl, rfl, h⟩, hw.sel [] (by decide) rfl⟩
     ·
      refine L.nil (E.thenN (W.seq (W.condF rfl ?_)))
      exact W.exit (E.thenX (E.KLX (E.blockX (E.joinJ ⟨rfl, rfl, h⟩ trivial (fun _ hw => hw.sel [] (by decide) rfl)))))
    ·
     rintro _ _ ⟨rfl, rfl, h⟩
     rw [m26_lock_can_K3] at h
     refine W.seq (W.region (L.y rfl (Y.assign rfl) ?_))
     refine L.nil (E.thenN (W.ret (E.ret1 rfl rfl (fun w1 hw => ?_))))
     exact ⟨_, _, rfl, ⟨(-1), rfl, rfl, h⟩, hw⟩
   ·
    rintro _ _ ⟨gx2, rfl, rfl, h⟩
    rw [m26_lock_can_K2] at h
    refine L.y rfl (Y.geq rfl rfl) ?_
    refine L.y rfl (Y.assign rfl) ?_
    refine L.nil (E.thenN (W.ret (E.ret1 rfl rfl (fun w1 hw => ?_))))
    exact ⟨_, _, rfl, ⟨decide (0 ≤ gx2), rfl, rfl, h⟩, hw⟩
  ·
   rintro _ _ ⟨gb1, rfl, rfl, h⟩
   rw [m26_lock_can_K1] at h
   refine L.y rfl (Y.not rfl) ?_
   refine L.y rfl (Y.assign rfl) ?_
   refine L.nil (E.thenN (W.ret (E.ret1 rfl rfl (fun w1 hw => ?_))))
   obtain rfl := Option.some.inj h
   exact ⟨_, _, rfl, ⟨rfl, rfl⟩, hw⟩
set_option maxRecDepth 100000 in
set_option maxHeartbeats 8000000 in
theorem w34_lock_line (a0 : TLockItem) (u0_0 : Value) (u0_1 : Value) (w : World) (r : Int) (h : m34_lock_line a0 = some r) (hA0_0 : At w u0_0 2 (a0.Held.map TLock.row)) (hA0_1 : At w u0_1 2 (a0.Queue.map TLock.row)) : Does Try.prog 34 [.agg #[.int .i64 a0.Item, u0_0, u0_1]] w fun u m => u = .int .i64 r ∧ m = [] := by
  rw [m34_lock_line] at h
  refine body (n := 121) Try.func34 rfl rfl rfl (Cls.refl w) ?_
  refine W.seq (W.region (L.box rfl rfl ?_))
  intro b1
  refine L.y rfl (Y.assign rfl) ?_
  refine L.nil (E.thenN (W.seq (W.region (L.alloc rfl ze89 ?_))))
  intro b2
  refine L.to (D := Cls w [] [.obj b2 (((List.replicate 12 (0 : Int)).map I).flatten) 89, .obj b1 [.int .i64 a0.Item, u0_0, u0_1] 50]) (fun _ hw => by first | exact hw | simpa [I, B, SR] using hw) ?_
  refine L.alloc rfl ze89 ?_
  intro b3
  refine L.to (D := Cls w [] [.obj b3 (((List.replicate 12 (0 : Int)).map I).flatten) 89, .obj b2 (((List.replicate 12 (0 : Int)).map I).flatten) 89, .obj b1 [.int .i64 a0.Item, u0_0, u0_1] 50]) (fun _ hw => by first | exact hw | simpa [I, B, SR] using hw) ?_
  refine L.nil (E.thenN (W.seqJ (fun gs D => gs = [(1, pt b1 0), (4, pt b3 0)] ∧ D = Cls w [] [.obj b3 (((List.replicate 12 (0 : Int)).map I).flatten) 89, .obj b1 [.int .i64 a0.Item, u0_0, u0_1] 50] ∧ m34_lock_line_K1 a0 = some r) ?_ ?_))
  ·
   refine W.seq (W.region (L.y rfl (Y.fieldP fd50_1 rfl) ?_))
   refine L.y rfl (Y.loadP (i := 2) ag48 rfl rfl rfl) ?_
   refine L.y rfl (Y.lenM (g := TLock.row) (l := a0.Held) Try.underlying48 rfl (fun w' hw => hA0_0.cls0 hw)) ?_
   refine L.y rfl (Y.move rfl) ?_
   refine L.nil (E.thenN (W.block (W.loopJ (fun m gs D => ∃ (gx6 : Int) (gl7 : (List Int)), gs = [(1, pt b1 0), (3, pt b2 0), (4, pt b3 0), (14, u0_0), (15, .int .i64 (a0.Held.length : Int)), (16, .int .i64 gx6)] ∧ D = Cls w [] [.obj b3 (((List.replicate 12 (0 : Int)).map I).flatten) 89, .obj b2 ((gl7.map I).flatten) 89, .obj b1 [.int .i64 a0.Item, u0_0, u0_1] 50] ∧ m34_lock_line_L4 a0 m gx6 gl7 = some r) ⟨0, (List.replicate 12 (0 : Int)), rfl, rfl, h⟩ ⟨rfl, rfl, rfl, rfl, rfl, rfl, trivial⟩ (fun _ hw => hw) ?_)))
   rintro m _ _ ⟨gx6, gl7, rfl, rfl, h⟩
   rcases m with _ | m
   · rw [m34_lock_line_L4] at h; cases h
   rw [m34_lock_line_L4] at h
   generalize hg4 : m34_lock_line_L4 a0 m = go4 at h
   rw [m34_lock_line_L4B] at h
   refine W.seq (W.region (L.ite h rfl (Y.lss rfl rfl) (fun c34 h => ?_) (fun c34 h => ?_)))
   ·
    refine L.nil (E.thenN (W.seq (W.condT rfl ?_)))
    refine W.skip (E.thenN (W.seq (W.block (W.seq (W.region (L.m (V := fun _ => el u0_0 (gx6.toNat * 2)) h rfl (Y.indexM (g := TLock.row) (l := a0.Held) Try.underlying48 sz55 rfl rfl (fun w' hw => hA0_0.cls0 hw)) (fun x35 ex35 h => ?_)))))))
    refine L.y rfl (Y.loadEN (r := [.int .i64 x35.Tx, .int .i64 x35.Mode]) ag55 sz55 rfl (fun w' hw => hA0_0.cls0 hw) (idx_map ex35) rfl) ?_
    refine L.alloc rfl ze55 ?_
    intro b36
    refine L.store (i := 0) (vs := [.int .i64 x35.Tx, .int .i64 x35.Mode]) sz55 rfl rfl rfl rfl (by simp [Value.oneCell', Value.cells, st, pt, el]) rfl (Nat.le_of_ble_eq_true rfl) ?_
    refine L.nil (E.thenN (W.seq (W.seq (W.region (L.cutJ 8 (fun gs D => ∃ (gb8 : Bool), gs = [(1, pt b1 0), (3, pt b2 0), (4, pt b3 0), (6, pt b36 0), (14, u0_0), (15, .int .i64 (a0.Held.length : Int)), (16, .int .i64 gx6), (27, .bool gb8)] ∧ D = Cls w [] [.obj b36 [.int .i64 x35.Tx, .int .i64 x35.Mode] 55, .obj b3 (((List.replicate 12 (0 : Int)).map I).flatten) 89, .obj b2 ((gl7.map I).flatten) 89, .obj b1 [.int .i64 a0.Item, u0_0, u0_1] 50] ∧ m34_lock_line_K6 x35 gl7 gx6 go4 gb8 = some r) ?_ ?_)))))
    ·
     refine L.y rfl (Y.fieldP fd55_0 rfl) ?_
     refine L.y rfl (Y.loadP (i := 0) ag3 rfl rfl rfl) ?_
     refine L.ite h rfl (Y.lss rfl rfl) (fun c44 h => ?_) (fun c44 h => ?_)
     ·
      refine L.y rfl (Y.move rfl) ?_
      refine L.pass rfl rfl (by nofun) ?_
      refine L.pass rfl rfl (by nofun) ?_
      refine L.pass rfl rfl (by nofun) ?_
      refine L.y rfl (Y.pickT rfl rfl) ?_
      exact L.nil (E.joinJ ⟨true, rfl, rfl, h⟩ ⟨rfl, rfl, rfl, rfl, rfl, rfl, rfl, rfl, trivial⟩ (fun _ hw => hw))
     ·
      refine L.y rfl (Y.move rfl) ?_
      refine L.take rfl (L.y rfl (Y.fieldP fd55_0 rfl) ?_)
      refine L.take rfl (L.y rfl (Y.loadP (i := 0) ag3 rfl rfl rfl) ?_)
      refine L.take rfl (L.ite h rfl (Y.geq rfl rfl) (fun c45 h => ?_) (fun c45 h => ?_))
      ·
       refine L.y rfl (Y.pickF rfl rfl) ?_
       exact L.nil (E.joinJ ⟨true, rfl, rfl, h⟩ ⟨rfl, rfl, rfl, rfl, rfl, rfl, rfl, rfl, trivial⟩ (fun _ hw => hw))
      ·
       refine L.y rfl (Y.pickF rfl rfl) ?_
       exact L.nil (E.joinJ ⟨false, rfl, rfl, h⟩ ⟨rfl, rfl, rfl, rfl, rfl, rfl, rfl, rfl, trivial⟩ (fun _ hw => hw))
    ·
     rintro _ _ ⟨gb8, rfl, rfl, h⟩
     rw [m34_lock_line_K6] at h
     rcases gb8 with _ | _
     ·
      replace h := iteF h
      refine L.y rfl (Y.move rfl) ?_
      refine L.take rfl (L.y rfl (Y.fieldP fd55_1 rfl) ?_)
      refine L.take rfl (L.y rfl (Y.loadP (i := 0) ag3 rfl rfl rfl) ?_)
      refine L.take rfl ?_
      obtain ⟨b37, e38, h⟩ := bind1S h
      refine L.y rfl (Y.does en18 rfl (fun w' hw => (w18_lock_isMode x35.Mode w' _ e38).mono (fun _ _ h => h.1))) ?_
      rcases b37 with _ | _
      ·
       replace h := iteF h
       refine L.take rfl (L.y rfl (Y.not rfl) ?_)
       refine L.y rfl (Y.pickF rfl rfl) ?_
       refine L.y rfl (Y.move rfl) ?_
       refine L.pass rfl rfl (by nofun) ?_
       refine L.pass rfl rfl (by nofun) ?_
       refine L.pass rfl rfl (by nofun) ?_
       refine L.pass rfl rfl (by nofun) ?_
       refine L.pass rfl rfl (by nofun) ?_
       refine L.y rfl (Y.pickT rfl rfl) ?_
       refine L.nil (E.thenN (W.condT rfl ?_))
       refine W.seq (W.region (L.y rfl (Y.assign rfl) ?_))
       refine L.nil (E.thenN (W.ret (E.thenR (E.blockR (E.thenR (E.KLR (E.blockR (E.KSR (E.ret1 rfl rfl (fun w1 hw => ?_))))))))))
       obtain rfl := Option.some.inj h
       exact ⟨_, _, rfl, ⟨rfl, rfl⟩, hw.sel [] (by decide) rfl⟩
      ·
       replace h := iteT h
       refine L.take rfl (L.y rfl (Y.not rfl) ?_)
       refine L.y rfl (Y.pickF rfl rfl) ?_
       refine L.y rfl (Y.move rfl) ?_
       refine L.take rfl (L.y rfl (Y.fieldP fd55_0 rfl) ?_)
       refine L.take rfl (L.y rfl (Y.loadP (i := 0) ag3 rfl rfl rfl) ?_)
       refine L.take rfl (L.m (V := fun _ => pt b2 (0 + x35.Tx.toNat * 1)) h rfl (Y.indexAM (l := gl7) Try.underlying89 sz3 rfl rfl) (fun x39 ex39 h => ?_))
       refine L.take rfl (L.y rfl (Y.loadAr (q := 2) (row := I) (j := 0) (p := .int .i64 x39) ag3 rfl rfl rfl (fun _ => rfl) (idxA_idx ex39) rfl) ?_)
       refine L.take rfl (L.ite h rfl (Y.gtr rfl rfl) (fun c40 h => ?_) (fun c40 h => ?_))
       ·
        refine L.y rfl (Y.pickF rfl rfl) ?_
        refine L.nil (E.thenN (W.condT rfl ?_))
        refine W.seq (W.region (L.y rfl (Y.assign rfl) ?_))
        refine L.nil (E.thenN (W.ret (E.thenR (E.blockR (E.thenR (E.KLR (E.blockR (E.KSR (E.ret1 rfl rfl (fun w1 hw => ?_))))))))))
        obtain rfl := Option.some.inj h
        exact ⟨_, _, rfl, ⟨rfl, rfl⟩, hw.sel [] (by decide) rfl⟩
       ·
        refine L.y rfl (Y.pickF rfl rfl) ?_
        refine L.nil (E.thenN (W.condF rfl ?_))
        refine W.skip (E.thenN (W.region (L.y rfl (Y.fieldP fd55_0 rfl) ?_)))
        refine L.y rfl (Y.loadP (i := 0) ag3 rfl rfl rfl) ?_
        refine L.y rfl (Y.fieldP fd55_1 rfl) ?_
        refine L.y rfl (Y.loadP (i := 0) ag3 rfl rfl rfl) ?_
        refine L.m (V := fun _ => pt b2 (0 + x35.Tx.toNat * 1)) h rfl (Y.indexAM (l := gl7) Try.underlying89 sz3 rfl rfl) (fun x41 ex41 h => ?_)
        refine L.storeArM (q := 2) (row := I) (vs := [.int .i64 x35.Mode]) (j := 0) (u1 := x35.Mode) h sz3 rfl rfl rfl rfl rfl (all1 rfl all0) rfl (fun _ => rfl) (idxA_idx ex41) rfl rfl ?_
        intro l42 el42 h
        refine L.nil (E.blockN (E.thenN (W.region (L.m (V := fun x43 => .int .i64 x43) h rfl (Y.addM rfl rfl) (fun x43 ex43 h => ?_)))))
        refine L.y rfl (Y.move rfl) ?_
        exact L.nil (E.againJ ⟨x43, l42, rfl, rfl, by rw [hg4]; exact h⟩ (Nat.lt_succ_self _) ⟨rfl, rfl, rfl, rfl, rfl, rfl, trivial⟩ (fun _ hw => hw.sel [1, 2, 3] (by decide) rfl))
     ·
      replace h := iteT h
      refine L.y rfl (Y.move rfl) ?_
      refine L.pass rfl rfl (by nofun) ?_
      refine L.pass rfl rfl (by nofun) ?_
      refine L.pass rfl rfl (by nofun) ?_
      refine L.pass rfl rfl (by nofun) ?_
      refine L.y rfl (Y.pickT rfl rfl) ?_
      refine L.y rfl (Y.move rfl) ?_
      refine L.pass rfl rfl (by nofun) ?_
      refine L.pass rfl rfl (by nofun) ?_
      refine L.pass rfl rfl (by nofun) ?_
      refine L.pass rfl rfl (by nofun) ?_
      refine L.pass rfl rfl (by nofun) ?_
      refine L.y rfl (Y.pickT rfl rfl) ?_
      refine L.nil (E.thenN (W.condT rfl ?_))
      refine W.seq (W.region (L.y rfl (Y.assign rfl) ?_))
      refine L.nil (E.thenN (W.ret (E.thenR (E.blockR (E.thenR (E.KLR (E.blockR (E.KSR (E.ret1 rfl rfl (fun w1 hw => ?_))))))))))
      obtain rfl := Option.some.inj h
      exact ⟨_, _, rfl, ⟨rfl, rfl⟩, hw.sel [] (by decide) rfl⟩
   ·
    refine L.nil (E.thenN (W.seq (W.condF rfl ?_)))
    exact W.exit (E.thenX (E.KLX (E.blockX (E.joinJ ⟨rfl, rfl, h⟩ ⟨rfl, rfl, trivial⟩ (fun _ hw => hw.sel [0, 2] (by decide) rfl)))))
  ·
   rintro _ _ ⟨rfl, rfl, h⟩
   rw [m34_lock_line_K1] at h
   refine W.seqJ (fun gs D => gs = [(1, pt b1 0), (4, pt b3 0)] ∧ D = Cls w [] [.obj b3 (((List.replicate 12 (0 : Int)).map I).flatten) 89, .obj b1 [.int .i64 a0.Item, u0_0, u0_1] 50] ∧ m34_lock_line_K2 a0 = some r) ?_ ?_
   ·
    refine W.seq (W.region (L.y rfl (Y.fieldP fd50_1 rfl) ?_))
    refine L.y rfl (Y.loadP (i := 1) ag48 rfl rfl rfl) ?_
    refine L.y rfl (Y.lenM (g := TLock.row) (l := a0.Held) Try.underlying48 rfl (fun w' hw => hA0_0.cls0 hw)) ?_
    refine L.y rfl (Y.move rfl) ?_
    refine L.nil (E.thenN (W.block (W.loopJ (fun m gs D => ∃ (gx4 : Int), gs = [(1, pt b1 0), (4, pt b3 0), (48, u0_0), (49, .int .i64 (a0.Held.length : Int)), (50, .int .i64 gx4)] ∧ D = Cls w [] [.obj b3 (((List.replicate 12 (0 : Int)).map I).flatten) 89, .obj b1 [.int .i64 a0.Item, u0_0, u0_1] 50] ∧ m34_lock_line_L2 a0 m gx4 = some r) ⟨0, rfl, rfl, h⟩ ⟨rfl, rfl, rfl, rfl, rfl, trivial⟩ (fun _ hw => hw) ?_)))
    rintro m _ _ ⟨gx4, rfl, rfl, h⟩
    rcases m with _ | m
    · rw [m34_lock_line_L2] at h; cases h
    rw [m34_lock_line_L2] at h
    generalize hg2 : m34_lock_line_L2 a0 m = go2 at h
    rw [m34_lock_line_L2B] at h
    refine W.seq (W.region (L.ite h rfl (Y.lss rfl rfl) (fun c20 h => ?_) (fun c20 h => ?_)))
    ·
     refine L.nil (E.thenN (W.seq (W.condT rfl ?_)))
     refine W.skip (E.thenN (W.seqJ (fun gs D => gs = [(1, pt b1 0), (4, pt b3 0), (48, u0_0), (49, .int .i64 (a0.Held.length : Int)), (50, .int .i64 gx4)] ∧ D = Cls w [] [.obj b3 (((List.replicate 12 (0 : Int)).map I).flatten) 89, .obj b1 [.int .i64 a0.Item, u0_0, u0_1] 50] ∧ m34_lock_line_K5 gx4 go2 = some r) ?_ ?_))
     ·
      refine W.block (W.seq (W.region (L.y rfl (Y.move rfl) ?_)))
      refine L.m (V := fun _ => el u0_0 (gx4.toNat * 2)) h rfl (Y.indexM (g := TLock.row) (l := a0.Held) Try.underlying48 sz55 rfl rfl (fun w' hw => hA0_0.cls0 hw)) (fun x22 ex22 h => ?_)
      refine L.y rfl (Y.loadEN (r := [.int .i64 x22.Tx, .int .i64 x22.Mode]) ag55 sz55 rfl (fun w' hw => hA0_0.cls0 hw) (idx_map ex22) rfl) ?_
      refine L.alloc rfl ze55 ?_
      intro b23
      refine L.y rfl (Y.assign rfl) ?_
      refine L.store (i := 0) (vs := [.int .i64 x22.Tx, .int .i64 x22.Mode]) sz55 rfl rfl rfl rfl (by simp [Value.oneCell', Value.cells, st, pt, el]) rfl (Nat.le_of_ble_eq_true rfl) ?_
      refine L.nil (E.thenN (W.seq (W.region (L.y rfl (Y.fieldP fd50_1 rfl) ?_))))
      refine L.y rfl (Y.loadP (i := 2) ag48 rfl rfl rfl) ?_
      refine L.y rfl (Y.move rfl) ?_
      refine L.m (V := fun x24 => .int .i64 x24) h rfl (Y.addM rfl rfl) (fun x24 ex24 h => ?_)
      refine L.m (V := fun _ => dropv u0_0 x24.toNat 2) h rfl (Y.dropM (g := TLock.row) Try.underlying48 sz55 rfl rfl (fun w' hw => hA0_0.cls0 hw)) (fun l25 el25 h => ?_)
      refine L.y rfl (Y.lenM (g := TLock.row) (l := l25) Try.underlying48 rfl (fun w' hw => (hA0_0.dropM el25).cls0 hw)) ?_
      refine L.y rfl (Y.move rfl) ?_
      refine L.nil (E.thenN (W.block (W.loopJ (fun m gs D => ∃ (gx5 : Int), gs = [(1, pt b1 0), (4, pt b3 0), (8, pt b23 0), (48, u0_0), (49, .int .i64 (a0.Held.length : Int)), (50, .int .i64 gx4), (59, dropv u0_0 x24.toNat 2), (60, .int .i64 (l25.length : Int)), (61, .int .i64 gx5)] ∧ D = Cls w [] [.obj b23 [.int .i64 x22.Tx, .int .i64 x22.Mode] 55, .obj b3 (((List.replicate 12 (0 : Int)).map I).flatten) 89, .obj b1 [.int .i64 a0.Item, u0_0, u0_1] 50] ∧ m34_lock_line_L3 l25 x22 gx4 go2 m gx5 = some r) ⟨0, rfl, rfl, h⟩ ⟨rfl, rfl, rfl, rfl, rfl, rfl, rfl, rfl, rfl, trivial⟩ (fun _ hw => hw) ?_)))
      rintro m _ _ ⟨gx5, rfl, rfl, h⟩
      rcases m with _ | m
      · rw [m34_lock_line_L3] at h; cases h
      rw [m34_lock_line_L3] at h
      generalize hg3 : m34_lock_line_L3 l25 x22 gx4 go2 m = go3 at h
      rw [m34_lock_line_L3B] at h
      refine W.seq (W.region (L.ite h rfl (Y.lss rfl rfl) (fun c26 h => ?_) (fun c26 h => ?_)))
      ·
       refine L.nil (E.thenN (W.seq (W.condT rfl ?_)))
       refine W.skip (E.thenN (W.seq (W.block (W.seq (W.region (L.m (V := fun _ => el (dropv u0_0 x24.toNat 2) (gx5.toNat * 2)) h rfl (Y.indexM (g := TLock.row) (l := l25) Try.underlying48 sz55 rfl rfl (fun w' hw => (hA0_0.dropM el25).cls0 hw)) (fun x27 ex27 h => ?_)))))))
       refine L.y rfl (Y.loadEN (r := [.int .i64 x27.Tx, .int .i64 x27.Mode]) ag55 sz55 rfl (fun w' hw => (hA0_0.dropM el25).cls0 hw) (idx_map ex27) rfl) ?_
       refine L.alloc rfl ze55 ?_
       intro b28
       refine L.store (i := 0) (vs := [.int .i64 x27.Tx, .int .i64 x27.Mode]) sz55 rfl rfl rfl rfl (by simp [Value.oneCell', Value.cells, st, pt, el]) rfl (Nat.le_of_ble_eq_true rfl) ?_
       refine L.nil (E.thenN (W.seq (W.quietC mixed (by kernel_rfl) (fun _ hw => hw.drew) (fun hC => ?_))))
       refine U.y rfl (Y.fieldP fd55_1 rfl) ?_
       refine U.y rfl (Y.loadP (i := 1) ag3 rfl rfl rfl) ?_
       obtain ⟨x29, e30, h⟩ := bind1S h
       refine U.y rfl (Y.does en33 rfl (fun w' hw => (w33_lock_fits x22.Mode w' _ e30).mono (fun _ _ h => h.1))) ?_
       refine U.y rfl (Y.fieldP fd55_1 rfl) ?_
       refine U.y rfl (Y.loadP (i := 0) ag3 rfl rfl rfl) ?_
       refine U.m (V := fun x31 => .int .i64 x31) h rfl (Y.shrM rfl rfl) (fun x31 ex31 h => ?_)
       refine U.y rfl (Y.and rfl rfl) ?_
       refine U.ite h rfl (Y.eql rfl rfl) (fun c32 h => ?_) (fun c32 h => ?_)
       ·
        refine U.nil (E.thenN (W.condT rfl ?_))
        refine W.seq (W.region (L.y rfl (Y.assign rfl) ?_))
        refine L.nil (E.thenN (W.ret (E.blockR (E.thenR (E.KLR (E.blockR (E.blockR (E.KSR (E.KLR (E.blockR (E.KSR (E.ret1 rfl rfl (fun w1 hw => ?_)))))))))))))
        obtain rfl := Option.some.inj h
        exact ⟨_, _, rfl, ⟨rfl, rfl⟩, hw.sel [] (by decide) rfl⟩
       ·
        refine U.nil (E.thenN (W.condF rfl ?_))
        refine W.skip (E.blockN (E.thenN (W.region (L.m (V := fun x33 => .int .i64 x33) h rfl (Y.addM rfl rfl) (fun x33 ex33 h => ?_)))))
        refine L.y rfl (Y.move rfl) ?_
        exact L.nil (E.againJ ⟨x33, rfl, rfl, by rw [hg3]; exact h⟩ (Nat.lt_succ_self _) ⟨rfl, rfl, rfl, rfl, rfl, rfl, rfl, rfl, rfl, trivial⟩ (fun _ hw => hw.sel [1, 2, 3] (by decide) rfl))
      ·
       refine L.nil (E.thenN (W.seq (W.condF rfl ?_)))
       exact W.exit (E.thenX (E.KLX (E.blockX (E.blockN (E.joinJ ⟨rfl, rfl, h⟩ ⟨rfl, rfl, rfl, rfl, rfl, trivial⟩ (fun _ hw => hw.sel [1, 2] (by decide) rfl))))))
     ·
      rintro _ _ ⟨rfl, rfl, h⟩
      rw [m34_lock_line_K5] at h
      refine W.region (L.m (V := fun x21 => .int .i64 x21) h rfl (Y.addM rfl rfl) (fun x21 ex21 h => ?_))
      refine L.y rfl (Y.move rfl) ?_
      exact L.nil (E.againJ ⟨x21, rfl, rfl, by rw [hg2]; exact h⟩ (Nat.lt_succ_self _) ⟨rfl, rfl, rfl, rfl, rfl, trivial⟩ (fun _ hw => hw))
    ·
     refine L.nil (E.thenN (W.seq (W.condF rfl ?_)))
     exact W.exit (E.thenX (E.KLX (E.blockX (E.joinJ ⟨rfl, rfl, h⟩ ⟨rfl, rfl, trivial⟩ (fun _ hw => hw)))))
   ·
    rintro _ _ ⟨rfl, rfl, h⟩
    rw [m34_lock_line_K2] at h
    refine W.seqJ (fun gs D => gs = [(1, pt b1 0)] ∧ D = Cls w [] [.obj b1 [.int .i64 a0.Item, u0_0, u0_1] 50] ∧ m34_lock_line_K3 a0 = some r) ?_ ?_
    ·
     refine W.seq (W.region (L.y rfl (Y.fieldP fd50_2 rfl) ?_))
     refine L.y rfl (Y.loadP (i := 1) ag48 rfl rfl rfl) ?_
     refine L.y rfl (Y.lenM (g := TLock.row) (l := a0.Queue) Try.underlying48 rfl (fun w' hw => hA0_1.cls0 hw)) ?_
     refine L.y rfl (Y.move rfl) ?_
     refine L.nil (E.thenN (W.block (W.loopJ (fun m gs D => ∃ (gx1 : Int) (gl2 : (List Int)), gs = [(1, pt b1 0), (4, pt b3 0), (76, u0_1), (77, .int .i64 (a0.Queue.length : Int)), (78, .int .i64 gx1)] ∧ D = Cls w [] [.obj b3 ((gl2.map I).flatten) 89, .obj b1 [.int .i64 a0.Item, u0_0, u0_1] 50] ∧ m34_lock_line_L1 a0 m gx1 gl2 = some r) ⟨0, (List.replicate 12 (0 : Int)), rfl, rfl, h⟩ ⟨rfl, rfl, rfl, rfl, rfl, trivial⟩ (fun _ hw => hw) ?_)))
     rintro m _ _ ⟨gx1, gl2, rfl, rfl, h⟩
     rcases m with _ | m
     · rw [m34_lock_line_L1] at h; cases h
     rw [m34_lock_line_L1] at h
     generalize hg1 : m34_lock_line_L1 a0 m = go1 at h
     rw [m34_lock_line_L1B] at h
     refine W.seq (W.region (L.ite h rfl (Y.lss rfl rfl) (fun c8 h => ?_) (fun c8 h => ?_)))
     ·
      refine L.nil (E.thenN (W.seq (W.condT rfl ?_)))
      refine W.skip (E.thenN (W.seq (W.block (W.seq (W.region (L.m (V := fun _ => el u0_1 (gx1.toNat * 2)) h rfl (Y.indexM (g := TLock.row) (l := a0.Queue) Try.underlying48 sz55 rfl rfl (fun w' hw => hA0_1.cls0 hw)) (fun x9 ex9 h => ?_)))))))
      refine L.y rfl (Y.loadEN (r := [.int .i64 x9.Tx, .int .i64 x9.Mode]) ag55 sz55 rfl (fun w' hw => hA0_1.cls0 hw) (idx_map ex9) rfl) ?_
      refine L.alloc rfl ze55 ?_
      intro b10
      refine L.store (i := 0) (vs := [.int .i64 x9.Tx, .int .i64 x9.Mode]) sz55 rfl rfl rfl rfl (by simp [Value.oneCell', Value.cells, st, pt, el]) rfl (Nat.le_of_ble_eq_true rfl) ?_
      refine L.nil (E.thenN (W.seq (W.seq (W.region (L.cutJ 8 (fun gs D => ∃ (gb3 : Bool), gs = [(1, pt b1 0), (4, pt b3 0), (12, pt b10 0), (76, u0_1), (77, .int .i64 (a0.Queue.length : Int)), (78, .int .i64 gx1), (89, .bool gb3)] ∧ D = Cls w [] [.obj b10 [.int .i64 x9.Tx, .int .i64 x9.Mode] 55, .obj b3 ((gl2.map I).flatten) 89, .obj b1 [.int .i64 a0.Item, u0_0, u0_1] 50] ∧ m34_lock_line_K4 x9 gl2 gx1 go1 gb3 = some r) ?_ ?_)))))
      ·
       refine L.y rfl (Y.fieldP fd55_0 rfl) ?_
       refine L.y rfl (Y.loadP (i := 0) ag3 rfl rfl rfl) ?_
       refine L.ite h rfl (Y.lss rfl rfl) (fun c18 h => ?_) (fun c18 h => ?_)
       ·
        refine L.y rfl (Y.move rfl) ?_
        refine L.pass rfl rfl (by nofun) ?_
        refine L.pass rfl rfl (by nofun) ?_
        refine L.pass rfl rfl (by nofun) ?_
        refine L.y rfl (Y.pickT rfl rfl) ?_
        exact L.nil (E.joinJ ⟨true, rfl, rfl, h⟩ ⟨rfl, rfl, rfl, rfl, rfl, rfl, rfl, trivial⟩ (fun _ hw => hw))
       ·
        refine L.y rfl (Y.move rfl) ?_
        refine L.take rfl (L.y rfl (Y.fieldP fd55_0 rfl) ?_)
        refine L.take rfl (L.y rfl (Y.loadP (i := 0) ag3 rfl rfl rfl) ?_)
        refine L.take rfl (L.ite h rfl (Y.geq rfl rfl) (fun c19 h => ?_) (fun c19 h => ?_))
        ·
         refine L.y rfl (Y.pickF rfl rfl) ?_
         exact L.nil (E.joinJ ⟨true, rfl, rfl, h⟩ ⟨rfl, rfl, rfl, rfl, rfl, rfl, rfl, trivial⟩ (fun _ hw => hw))
        ·
         refine L.y rfl (Y.pickF rfl rfl) ?_
         exact L.nil (E.joinJ ⟨false, rfl, rfl, h⟩ ⟨rfl, rfl, rfl, rfl, rfl, rfl, rfl, trivial⟩ (fun _ hw => hw))
      ·
       rintro _ _ ⟨gb3, rfl, rfl, h⟩
       rw [m34_lock_line_K4] at h
       rcases gb3 with _ | _
       ·
        replace h := iteF h
        refine L.y rfl (Y.move rfl) ?_
        refine L.take rfl (L.y rfl (Y.fieldP fd55_1 rfl) ?_)
        refine L.take rfl (L.y rfl (Y.loadP (i := 0) ag3 rfl rfl rfl) ?_)
        refine L.take rfl ?_
        obtain ⟨b11, e12, h⟩ := bind1S h
        refine L.y rfl (Y.does en18 rfl (fun w' hw => (w18_lock_isMode x9.Mode w' _ e12).mono (fun _ _ h => h.1))) ?_
        rcases b11 with _ | _
        ·
         replace h := iteF h
         refine L.take rfl (L.y rfl (Y.not rfl) ?_)
         refine L.y rfl (Y.pickF rfl rfl) ?_
         refine L.y rfl (Y.move rfl) ?_
         refine L.pass rfl rfl (by nofun) ?_
         refine L.pass rfl rfl (by nofun) ?_
         refine L.pass rfl rfl (by nofun) ?_
         refine L.pass rfl rfl (by nofun) ?_
         refine L.pass rfl rfl (by nofun) ?_
         refine L.y rfl (Y.pickT rfl rfl) ?_
         refine L.nil (E.thenN (W.condT rfl ?_))
         refine W.seq (W.region (L.y rfl (Y.assign rfl) ?_))
         refine L.nil (E.thenN (W.ret (E.thenR (E.blockR (E.thenR (E.KLR (E.blockR (E.KSR (E.ret1 rfl rfl (fun w1 hw => ?_))))))))))
         obtain rfl := Option.some.inj h
         exact ⟨_, _, rfl, ⟨rfl, rfl⟩, hw.sel [] (by decide) rfl⟩
        ·
         replace h := iteT h
         refine L.take rfl (L.y rfl (Y.not rfl) ?_)
         refine L.y rfl (Y.pickF rfl rfl) ?_
         refine L.y rfl (Y.move rfl) ?_
         refine L.take rfl (L.y rfl (Y.fieldP fd55_0 rfl) ?_)
         refine L.take rfl (L.y rfl (Y.loadP (i := 0) ag3 rfl rfl rfl) ?_)
         refine L.take rfl (L.m (V := fun _ => pt b3 (0 + x9.Tx.toNat * 1)) h rfl (Y.indexAM (l := gl2) Try.underlying89 sz3 rfl rfl) (fun x13 ex13 h => ?_))
         refine L.take rfl (L.y rfl (Y.loadAr (q := 1) (row := I) (j := 0) (p := .int .i64 x13) ag3 rfl rfl rfl (fun _ => rfl) (idxA_idx ex13) rfl) ?_)
         refine L.take rfl (L.ite h rfl (Y.gtr rfl rfl) (fun c14 h => ?_) (fun c14 h => ?_))
         ·
          refine L.y rfl (Y.pickF rfl rfl) ?_
          refine L.nil (E.thenN (W.condT rfl ?_))
          refine W.seq (W.region (L.y rfl (Y.assign rfl) ?_))
          refine L.nil (E.thenN (W.ret (E.thenR (E.blockR (E.thenR (E.KLR (E.blockR (E.KSR (E.ret1 rfl rfl (fun w1 hw => ?_))))))))))
          obtain rfl := Option.some.inj h
          exact ⟨_, _, rfl, ⟨rfl, rfl⟩, hw.sel [] (by decide) rfl⟩
         ·
          refine L.y rfl (Y.pickF rfl rfl) ?_
          refine L.nil (E.thenN (W.condF rfl ?_))
          refine W.skip (E.thenN (W.region (L.y rfl (Y.fieldP fd55_0 rfl) ?_)))
          refine L.y rfl (Y.loadP (i := 0) ag3 rfl rfl rfl) ?_
          refine L.y rfl (Y.fieldP fd55_1 rfl) ?_
          refine L.y rfl (Y.loadP (i := 0) ag3 rfl rfl rfl) ?_
          refine L.m (V := fun _ => pt b3 (0 + x9.Tx.toNat * 1)) h rfl (Y.indexAM (l := gl2) Try.underlying89 sz3 rfl rfl) (fun x15 ex15 h => ?_)
          refine L.storeArM (q := 1) (row := I) (vs := [.int .i64 x9.Mode]) (j := 0) (u1 := x9.Mode) h sz3 rfl rfl rfl rfl rfl (all1 rfl all0) rfl (fun _ => rfl) (idxA_idx ex15) rfl rfl ?_
          intro l16 el16 h
          refine L.nil (E.blockN (E.thenN (W.region (L.m (V := fun x17 => .int .i64 x17) h rfl (Y.addM rfl rfl) (fun x17 ex17 h => ?_)))))
          refine L.y rfl (Y.move rfl) ?_
          exact L.nil (E.againJ ⟨x17, l16, rfl, rfl, by rw [hg1]; exact h⟩ (Nat.lt_succ_self _) ⟨rfl, rfl, rfl, rfl, rfl, trivial⟩ (fun _ hw => hw.sel [1, 2] (by decide) rfl))
       ·
        replace h := iteT h
        refine L.y rfl (Y.move rfl) ?_
        refine L.pass rfl rfl (by nofun) ?_
        refine L.pass rfl rfl (by nofun) ?_
        refine L.pass rfl rfl (by nofun) ?_
        refine L.pass rfl rfl (by nofun) ?_
        refine L.y rfl (Y.pickT rfl rfl) ?_
        refine L.y rfl (Y.move rfl) ?_
        refine L.pass rfl rfl (by nofun) ?_
        refine L.pass rfl rfl (by nofun) ?_
        refine L.pass rfl rfl (by nofun) ?_
        refine L.pass rfl rfl (by nofun) ?_
        refine L.pass rfl rfl (by nofun) ?_
        refine L.y rfl (Y.pickT rfl rfl) ?_
        refine L.nil (E.thenN (W.condT rfl ?_))
        refine W.seq (W.region (L.y rfl (Y.assign rfl) ?_))
        refine L.nil (E.thenN (W.ret (E.thenR (E.blockR (E.thenR (E.KLR (E.blockR (E.KSR (E.ret1 rfl rfl (fun w1 hw => ?_))))))))))
        obtain rfl := Option.some.inj h
        exact ⟨_, _, rfl, ⟨rfl, rfl⟩, hw.sel [] (by decide) rfl⟩
     ·
      refine L.nil (E.thenN (W.seq (W.condF rfl ?_)))
      exact W.exit (E.thenX (E.KLX (E.blockX (E.joinJ ⟨rfl, rfl, h⟩ ⟨rfl, trivial⟩ (fun _ hw => hw.sel [1] (by decide) rfl)))))
    ·
     rintro _ _ ⟨rfl, rfl, h⟩
     rw [m34_lock_line_K3] at h
     refine W.seq (W.seq (W.quietC mixed (by kernel_rfl) (fun _ hw => hw.drew) (fun hC => ?_)))
     refine U.y rfl (Y.fieldP fd50_2 rfl) ?_
     refine U.y rfl (Y.loadP (i := 0) ag48 rfl rfl rfl) ?_
     refine U.y rfl (Y.lenM (g := TLock.row) (l := a0.Queue) Try.underlying48 rfl (fun w' hw => hA0_1.cls0 hw)) ?_
     refine U.ite h rfl (Y.gtr rfl rfl) (fun c4 h => ?_) (fun c4 h => ?_)
     ·
      refine U.y rfl (Y.move rfl) ?_
      refine U.take rfl (U.y rfl (Y.loadPW (i := 0) ag50 sz50 rfl rfl rfl) ?_)
      refine U.take rfl (U.y rfl (Y.fieldP fd50_2 rfl) ?_)
      refine U.take rfl (U.y rfl (Y.loadP (i := 0) ag48 rfl rfl rfl) ?_)
      refine U.take rfl (U.m (V := fun _ => el u0_1 ((0 : Int).toNat * 2)) h rfl (Y.indexM (g := TLock.row) (l := a0.Queue) Try.underlying48 sz55 rfl rfl (fun w' hw => hA0_1.cls0 hw)) (fun x5 ex5 h => ?_))
      refine U.take rfl (U.y rfl (Y.loadEN (r := [.int .i64 x5.Tx, .int .i64 x5.Mode]) ag55 sz55 rfl (fun w' hw => hA0_1.cls0 hw) (idx_map ex5) rfl) ?_)
      refine U.take rfl ?_
      obtain ⟨b6, e7, h⟩ := bind1S h
      refine U.y rfl (Y.does en26 rfl (fun w' hw => (w26_lock_can a0 x5 u0_0 u0_1 w' _ e7 (hA0_0.cls0 hw) (hA0_1.cls0 hw)).mono (fun _ _ h => h.1))) ?_
      rcases b6 with _ | _
      ·
       replace h := iteF h
       refine U.y rfl (Y.pickT rfl rfl) ?_
       refine U.nil (E.thenN (W.condF rfl ?_))
       refine W.skip (E.thenN (W.seq (W.region (L.y rfl (Y.assign rfl) ?_))))
       refine L.nil (E.thenN (W.ret (E.ret1 rfl rfl (fun w1 hw => ?_))))
       obtain rfl := Option.some.inj h
       exact ⟨_, _, rfl, ⟨rfl, rfl⟩, hw.sel [] (by decide) rfl⟩
      ·
       replace h := iteT h
       refine U.y rfl (Y.pickT rfl rfl) ?_
       refine U.nil (E.thenN (W.condT rfl ?_))
       refine W.seq (W.region (L.y rfl (Y.assign rfl) ?_))
       refine L.nil (E.thenN (W.ret (E.thenR (E.ret1 rfl rfl (fun w1 hw => ?_)))))
       obtain rfl := Option.some.inj h
       exact ⟨_, _, rfl, ⟨rfl, rfl⟩, hw.sel [] (by decide) rfl⟩
     ·
      refine U.y rfl (Y.move rfl) ?_
      refine U.pass rfl rfl (by nofun) ?_
      refine U.pass rfl rfl (by nofun) ?_
      refine U.pass rfl rfl (by nofun) ?_
      refine U.pass rfl rfl (by nofun) ?_
      refine U.pass rfl rfl (by nofun) ?_
      refine U.pass rfl rfl (by nofun) ?_
      refine U.y rfl (Y.pickF rfl rfl) ?_
      refine U.nil (E.thenN (W.condF rfl ?_))
      refine W.skip (E.thenN (W.seq (W.region (L.y rfl (Y.assign rfl) ?_))))
      refine L.nil (E.thenN (W.ret (E.ret1 rfl rfl (fun w1 hw => ?_))))
      obtain rfl := Option.some.inj h
      exact ⟨_, _, rfl, ⟨rfl, rfl⟩, hw.sel [] (by decide) rfl⟩
set_option maxRecDepth 100000 in
set_option maxHeartbeats 8000000 in
theorem w9_lock_Check (a0 : (List TLockItem)) (u0 : Value) (q0 : Nat → List Value) (w : World) (r : Int) (h : m9_lock_Check a0 = some r) (hA0 : At w u0 3 (zr TLockItem.rowv q0 a0)) (hD0 : ∀ d ∈ zs TLockItem.sds q0 a0, At w d.v d.k d.rows) : Does Try.prog 9 [u0] w fun u m => u = .int .i64 r ∧ m = [] := by
  rw [m9_lock_Check] at h
  refine body (n := 49) Try.func9 rfl rfl rfl (Cls.refl w) ?_
  refine W.seq (W.region (L.y rfl (Y.assign rfl) ?_))
  refine L.nil (E.thenN (W.seqJ (fun gs D => gs = [(0, u0)] ∧ D = Cls w [] [] ∧ m9_lock_Check_K1 a0 = some r) ?_ ?_))
  ·
   refine W.seq (W.region (L.y rfl (Y.move rfl) ?_))
   refine L.y rfl (Y.lenMZ (row := TLockItem.rowv) (vs := q0) (l := a0) Try.underlying23 rfl (fun w' hw => hA0.cls0 hw)) ?_
   refine L.ite h rfl (Y.gtr rfl rfl) (fun c15 h => ?_) (fun c15 h => ?_)
   ·
    refine L.nil (E.thenN (W.condT rfl ?_))
    refine W.seq (W.region (L.y rfl (Y.assign rfl) ?_))
    refine L.nil (E.thenN (W.ret (E.KSR (E.ret1 rfl rfl (fun w1 hw => ?_)))))
    obtain rfl := Option.some.inj h
    exact ⟨_, _, rfl, ⟨rfl, rfl⟩, hw⟩
   ·
    refine L.nil (E.thenN (W.condF rfl ?_))
    exact W.skip (E.joinJ ⟨rfl, rfl, h⟩ ⟨rfl, trivial⟩ (fun _ hw => hw))
  ·
   rintro _ _ ⟨rfl, rfl, h⟩
   rw [m9_lock_Check_K1] at h
   refine W.seqJ (fun gs D => gs = [] ∧ D = Cls w [] [] ∧ m9_lock_Check_K2 = some r) ?_ ?_
   ·
    refine W.seq (W.region (L.y rfl (Y.move rfl) ?_))
    refine L.y rfl (Y.lenMZ (row := TLockItem.rowv) (vs := q0) (l := a0) Try.underlying23 rfl (fun w' hw => hA0.cls0 hw)) ?_
    refine L.y rfl (Y.move rfl) ?_
    refine L.nil (E.thenN (W.block (W.loopJ (fun m gs D => ∃ (gx1 : Int), gs = [(0, u0), (9, u0), (10, .int .i64 (a0.length : Int)), (11, .int .i64 gx1)] ∧ D = Cls w [] [] ∧ m9_lock_Check_L1 a0 m gx1 = some r) ⟨0, rfl, rfl, h⟩ ⟨rfl, rfl, rfl, rfl, trivial⟩ (fun _ hw => hw) ?_)))
    rintro m _ _ ⟨gx1, rfl, rfl, h⟩
    rcases m with _ | m
    · rw [m9_lock_Check_L1] at h; cases h
    rw [m9_lock_Check_L1] at h
    generalize hg1 : m9_lock_Check_L1 a0 m = go1 at h
    rw [m9_lock_Check_L1B] at h
    refine W.seq (W.region (L.ite h rfl (Y.lss rfl rfl) (fun c1 h => ?_) (fun c1 h => ?_)))
    ·
     refine L.nil (E.thenN (W.seq (W.condT rfl ?_)))
     refine W.skip (E.thenN (W.seq (W.block (W.seq (W.region (L.y rfl (Y.move rfl) ?_))))))
     refine L.m (V := fun _ => el u0 (gx1.toNat * 3)) h rfl (Y.indexMZ (row := TLockItem.rowv) (vs := q0) (l := a0) Try.underlying23 sz50 rfl rfl (fun w' hw => hA0.cls0 hw)) (fun x2 ex2 h => ?_)
     refine L.y rfl (Y.loadEN (r := [.int .i64 x2.Item, gv (q0 gx1.toNat) 0, gv (q0 gx1.toNat) 1]) ag50 sz50 rfl (fun w' hw => hA0.cls0 hw) (zr_idx (vs := q0) ex2) rfl) ?_
     refine L.alloc rfl ze50 ?_
     intro b3
     refine L.y rfl (Y.assign rfl) ?_
     refine L.storeC (i := 0) sz50 rfl rfl rfl rfl (fun w hw => (all1 rfl (all1 ((zAt (sds := TLockItem.sds) (vs := q0) (j := 0) (c := 2) hD0 (fun _ _ => rfl) ex2 rfl).cls0 hw).one (all1 ((zAt (sds := TLockItem.sds) (vs := q0) (j := 1) (c := 2) hD0 (fun _ _ => rfl) ex2 rfl).cls0 hw).one all0)))) rfl (Nat.le_of_ble_eq_true rfl) ?_
     refine L.nil (E.thenN (W.seqJ (fun gs D => gs = [(0, u0), (3, .int .i64 gx1), (4, pt b3 0), (9, u0), (10, .int .i64 (a0.length : Int)), (11, .int .i64 gx1)] ∧ D = Cls w [] [.obj b3 [.int .i64 x2.Item, gv (q0 gx1.toNat) 0, gv (q0 gx1.toNat) 1] 50] ∧ m9_lock_Check_K3 gx1 a0 x2 go1 = some r) ?_ ?_))
     ·
      refine W.seq (W.region (L.y rfl (Y.fieldP fd50_0 rfl) ?_))
      refine L.y rfl (Y.loadP (i := 0) ag3 rfl rfl rfl) ?_
      refine L.ite h rfl (Y.lss rfl rfl) (fun c13 h => ?_) (fun c13 h => ?_)
      ·
       refine L.y rfl (Y.move rfl) ?_
       refine L.pass rfl rfl (by nofun) ?_
       refine L.pass rfl rfl (by nofun) ?_
       refine L.pass rfl rfl (by nofun) ?_
       refine L.y rfl (Y.pickT rfl rfl) ?_
       refine L.nil (E.thenN (W.condT rfl ?_))
       refine W.seq (W.region (L.y rfl (Y.assign rfl) ?_))
       refine L.nil (E.thenN (W.ret (E.KSR (E.blockR (E.thenR (E.KLR (E.blockR (E.KSR (E.ret1 rfl rfl (fun w1 hw => ?_))))))))))
       obtain rfl := Option.some.inj h
       exact ⟨_, _, rfl, ⟨rfl, rfl⟩, hw.sel [] (by decide) rfl⟩
      ·
       refine L.y rfl (Y.move rfl) ?_
       refine L.take rfl (L.y rfl (Y.fieldP fd50_0 rfl) ?_)
       refine L.take rfl (L.y rfl (Y.loadP (i := 0) ag3 rfl rfl rfl) ?_)
       refine L.take rfl (L.ite h rfl (Y.geq rfl rfl) (fun c14 h => ?_) (fun c14 h => ?_))
       ·
        refine L.y rfl (Y.pickF rfl rfl) ?_
        refine L.nil (E.thenN (W.condT rfl ?_))
        refine W.seq (W.region (L.y rfl (Y.assign rfl) ?_))
        refine L.nil (E.thenN (W.ret (E.KSR (E.blockR (E.thenR (E.KLR (E.blockR (E.KSR (E.ret1 rfl rfl (fun w1 hw => ?_))))))))))
        obtain rfl := Option.some.inj h
        exact ⟨_, _, rfl, ⟨rfl, rfl⟩, hw.sel [] (by decide) rfl⟩
       ·
        refine L.y rfl (Y.pickF rfl rfl) ?_
        refine L.nil (E.thenN (W.condF rfl ?_))
        exact W.skip (E.joinJ ⟨rfl, rfl, h⟩ ⟨rfl, rfl, rfl, rfl, rfl, rfl, trivial⟩ (fun _ hw => hw))
     ·
      rintro _ _ ⟨rfl, rfl, h⟩
      rw [m9_lock_Check_K3] at h
      refine W.seq (W.seq (W.quietC mixed (by kernel_rfl) (fun _ hw => hw.drew) (fun hC => ?_)))
      refine U.cutJ hC 13 (fun gs => ∃ (gb2 : Bool), gs = [(0, u0), (4, pt b3 0), (9, u0), (10, .int .i64 (a0.length : Int)), (11, .int .i64 gx1), (36, .bool gb2)] ∧ m9_lock_Check_K4 x2 gx1 go1 gb2 = some r) ?_ ?_
      ·
       refine U.y rfl (Y.move rfl) ?_
       refine U.ite h rfl (Y.gtr rfl rfl) (fun c9 h => ?_) (fun c9 h => ?_)
       ·
        refine U.y rfl (Y.move rfl) ?_
        refine U.take rfl (U.y rfl (Y.fieldP fd50_0 rfl) ?_)
        refine U.take rfl (U.y rfl (Y.loadP (i := 0) ag3 rfl rfl rfl) ?_)
        refine U.take rfl (U.y rfl (Y.move rfl) ?_)
        refine U.take rfl (U.y rfl (Y.move rfl) ?_)
        refine U.take rfl (U.m (V := fun x10 => .int .i64 x10) h rfl (Y.subM rfl rfl) (fun x10 ex10 h => ?_))
        refine U.take rfl (U.m (V := fun _ => el u0 (x10.toNat * 3)) h rfl (Y.indexMZ (row := TLockItem.rowv) (vs := q0) (l := a0) Try.underlying23 sz50 rfl rfl (fun w' hw => hA0.cls0 hw)) (fun x11 ex11 h => ?_))
        refine U.take rfl (U.y rfl (Y.fieldE fd50_0 rfl) ?_)
        refine U.take rfl (U.y rfl (Y.loadE (u := .int .i64 x11.Item) ag3 rfl (fun w' hw => hA0.cls0 hw) (zr_idx (vs := q0) ex11) rfl) ?_)
        refine U.take rfl (U.ite h rfl (Y.leq rfl rfl) (fun c12 h => ?_) (fun c12 h => ?_))
        ·
         refine U.y rfl (Y.pickT rfl rfl) ?_
         exact U.nil (E.joinU ⟨true, rfl, h⟩ ⟨rfl, rfl, rfl, rfl, rfl, rfl, trivial⟩)
        ·
         refine U.y rfl (Y.pickT rfl rfl) ?_
         exact U.nil (E.joinU ⟨false, rfl, h⟩ ⟨rfl, rfl, rfl, rfl, rfl, rfl, trivial⟩)
       ·
        refine U.y rfl (Y.move rfl) ?_
        refine U.pass rfl rfl (by nofun) ?_
        refine U.pass rfl rfl (by nofun) ?_
        refine U.pass rfl rfl (by nofun) ?_
        refine U.pass rfl rfl (by nofun) ?_
        refine U.pass rfl rfl (by nofun) ?_
        refine U.pass rfl rfl (by nofun) ?_
        refine U.pass rfl rfl (by nofun) ?_
        refine U.pass rfl rfl (by nofun) ?_
        refine U.pass rfl rfl (by nofun) ?_
        refine U.y rfl (Y.pickF rfl rfl) ?_
        exact U.nil (E.joinU ⟨false, rfl, h⟩ ⟨rfl, rfl, rfl, rfl, rfl, rfl, trivial⟩)
      ·
       rintro _ ⟨gb2, rfl, h⟩
       rw [m9_lock_Check_K4] at h
       rcases gb2 with _ | _
       ·
        replace h := iteF h
        refine U.y rfl (Y.move rfl) ?_
        refine U.take rfl (U.y rfl (Y.fieldP fd50_1 rfl) ?_)
        refine U.take rfl (U.y rfl (Y.loadP (i := 0) ag48 rfl rfl rfl) ?_)
        refine U.take rfl (U.y rfl (Y.lenM (g := TLock.row) (l := x2.Held) Try.underlying48 rfl (fun w' hw => (zAt (sds := TLockItem.sds) (vs := q0) (j := 0) (c := 2) hD0 (fun _ _ => rfl) ex2 rfl).cls0 hw)) ?_)
        refine U.take rfl (U.ite h rfl (Y.eql rfl rfl) (fun c4 h => ?_) (fun c4 h => ?_))
        ·
         refine U.y rfl (Y.pickF rfl rfl) ?_
         refine U.nil (E.thenN (W.condT rfl ?_))
         refine W.seq (W.region (L.y rfl (Y.assign rfl) ?_))
         refine L.nil (E.thenN (W.ret (E.thenR (E.blockR (E.thenR (E.KLR (E.blockR (E.KSR (E.ret1 rfl rfl (fun w1 hw => ?_))))))))))
         obtain rfl := Option.some.inj h
         exact ⟨_, _, rfl, ⟨rfl, rfl⟩, hw.sel [] (by decide) rfl⟩
        ·
         refine U.y rfl (Y.pickF rfl rfl) ?_
         refine U.nil (E.thenN (W.condF rfl ?_))
         refine W.skip (E.thenN (W.seq (W.region (L.y rfl (Y.loadPW (i := 0) ag50 sz50 rfl rfl rfl) ?_))))
         obtain ⟨x5, e6, h⟩ := bind1S h
         refine L.y rfl (Y.does en34 rfl (fun w' hw => (w34_lock_line x2 (gv (q0 gx1.toNat) 0) (gv (q0 gx1.toNat) 1) w' _ e6 ((zAt (sds := TLockItem.sds) (vs := q0) (j := 0) (c := 2) hD0 (fun _ _ => rfl) ex2 rfl).cls0 hw) ((zAt (sds := TLockItem.sds) (vs := q0) (j := 1) (c := 2) hD0 (fun _ _ => rfl) ex2 rfl).cls0 hw)).mono (fun _ _ h => h.1))) ?_
         refine L.y rfl (Y.assign rfl) ?_
         refine L.nil (E.thenN (W.seq (W.region (L.y rfl (Y.move rfl) ?_))))
         refine L.ite h rfl (Y.neq rfl rfl) (fun c7 h => ?_) (fun c7 h => ?_)
         ·
          refine L.nil (E.thenN (W.condT rfl ?_))
          refine W.seq (W.region (L.y rfl (Y.move rfl) ?_))
          refine L.y rfl (Y.assign rfl) ?_
          refine L.nil (E.thenN (W.ret (E.blockR (E.thenR (E.KLR (E.blockR (E.KSR (E.ret1 rfl rfl (fun w1 hw => ?_)))))))))
          obtain rfl := Option.some.inj h
          exact ⟨_, _, rfl, ⟨rfl, rfl⟩, hw.sel [] (by decide) rfl⟩
         ·
          refine L.nil (E.thenN (W.condF rfl ?_))
          refine W.skip (E.blockN (E.thenN (W.region (L.m (V := fun x8 => .int .i64 x8) h rfl (Y.addM rfl rfl) (fun x8 ex8 h => ?_)))))
          refine L.y rfl (Y.move rfl) ?_
          exact L.nil (E.againJ ⟨x8, rfl, rfl, by rw [hg1]; exact h⟩ (Nat.lt_succ_self _) ⟨rfl, rfl, rfl, rfl, trivial⟩ (fun _ hw => hw.sel [] (by decide) rfl))
       ·
        replace h := iteT h
        refine U.y rfl (Y.move rfl) ?_
        refine U.pass rfl rfl (by nofun) ?_
        refine U.pass rfl rfl (by nofun) ?_
        refine U.pass rfl rfl (by nofun) ?_
        refine U.pass rfl rfl (by nofun) ?_
        refine U.y rfl (Y.pickT rfl rfl) ?_
        refine U.nil (E.thenN (W.condT rfl ?_))
        refine W.seq (W.region (L.y rfl (Y.assign rfl) ?_))
        refine L.nil (E.thenN (W.ret (E.thenR (E.blockR (E.thenR (E.KLR (E.blockR (E.KSR (E.ret1 rfl rfl (fun w1 hw => ?_))))))))))
        obtain rfl := Option.some.inj h
        exact ⟨_, _, rfl, ⟨rfl, rfl⟩, hw.sel [] (by decide) rfl⟩
    ·
     refine L.nil (E.thenN (W.seq (W.condF rfl ?_)))
     exact W.exit (E.thenX (E.KLX (E.blockX (E.joinJ ⟨rfl, rfl, h⟩ trivial (fun _ hw => hw)))))
   ·
    rintro _ _ ⟨rfl, rfl, h⟩
    rw [m9_lock_Check_K2] at h
    refine W.seq (W.region (L.y rfl (Y.assign rfl) ?_))
    refine L.nil (E.thenN (W.ret (E.ret1 rfl rfl (fun w1 hw => ?_))))
    obtain rfl := Option.some.inj h
    exact ⟨_, _, rfl, ⟨rfl, rfl⟩, hw⟩
set_option maxRecDepth 100000 in
set_option maxHeartbeats 8000000 in
theorem w47_api_Lock (a0 : (List TLock)) (u0 : Value) (w : World) (r : (List TLock)) (h : m47_api_Lock a0 = some r) (hA0 : At w u0 2 (a0.map TLock.row)) : Does Try.prog 47 [u0] w fun u m => ∃ v0, u = v0 ∧ m = [.sl v0 55 2 (r.map TLock.row)] := by
  rw [m47_api_Lock] at h
  rcases hA0.shape with ⟨rfl, hn⟩ | ⟨ad, cap, rfl, hl, hm⟩
  ·
   obtain rfl : a0 = [] := by simpa using hn
   replace h : some ([] : List TLock) = some r := by simpa [app] using h
   refine body (n := 8) Try.func47 rfl rfl rfl (Cls.refl w) ?_
   refine W.seq (W.region (L.y rfl (Y.assign rfl) ?_))
   refine L.nil (E.thenN (W.seq (W.seq (W.region (L.y rfl (Y.move rfl) ?_)))))
   refine L.y rfl (Y.eqlNil Try.underlying48 rfl rfl) ?_
   refine L.nil (E.thenN (W.condT rfl ?_))
   refine W.seq (W.region (L.y rfl (Y.assign rfl) ?_))
   refine L.nil (E.thenN (W.ret (E.thenR (E.ret1 rfl rfl (fun w1 hw => ?_)))))
   obtain rfl := Option.some.inj h
   exact ⟨_, _, rfl, ⟨_, rfl, rfl⟩, (hw.nilSl 55 2)⟩
  ·
   refine body (n := 8) Try.func47 rfl rfl rfl (Cls.refl w) ?_
   refine W.seq (W.region (L.y rfl (Y.assign rfl) ?_))
   refine L.nil (E.thenN (W.seq (W.seq (W.region (L.y rfl (Y.move rfl) ?_)))))
   refine L.y rfl (Y.eqlNil Try.underlying48 rfl rfl) ?_
   refine L.nil (E.thenN (W.condF rfl ?_))
   refine W.skip (E.thenN (W.seq (W.region (L.lit0 rfl Try.underlying48 eL55 ?_))))
   intro b1
   refine L.y rfl (Y.move rfl) ?_
   refine L.appM (i := 0) (g := TLock.row) (l := []) (more := a0) h rfl Try.underlying48 eL55 rfl rfl rfl (fun w' hw => hA0.cls0 hw) (plain_TLock _) rfl ?_
   intro v2 l3 el3 h
   refine L.y rfl (Y.assign rfl) ?_
   refine L.nil (E.thenN (W.ret (E.ret1 rfl rfl (fun w1 hw => ?_))))
   obtain rfl := Option.some.inj h
   exact ⟨_, _, rfl, ⟨_, rfl, rfl⟩, hw⟩
set_option maxRecDepth 100000 in
set_option maxHeartbeats 8000000 in
theorem w21_lock_copied (a0 : (List TLockItem)) (u0 : Value) (q0 : Nat → List Value) (w : World) (r : (List TLockItem)) (h : m21_lock_copied a0 = some r) (hA0 : At w u0 3 (zr TLockItem.rowv q0 a0)) (hD0 : ∀ d ∈ zs TLockItem.sds q0 a0, At w d.v d.k d.rows) : Does Try.prog 21 [u0] w fun u m => ∃ v0 q0, u = v0 ∧ m = [.sl v0 50 3 (zr TLockItem.rowv q0 r), .ss (zs TLockItem.sds q0 r)] := by
  rw [m21_lock_copied] at h
  refine body (n := 26) Try.func21 rfl rfl rfl (Cls.refl w) ?_
  refine W.seq (W.region (L.y rfl (Y.assign rfl) ?_))
  refine L.nil (E.thenN (W.seq (W.region (L.y rfl (Y.assign rfl) ?_))))
  refine L.nil (E.thenN (W.seqJ (fun gs D => ∃ (gv1 : Value) (gl2 : (List TLockItem)) (gq3 : Nat → List Value), gs = [(3, gv1)] ∧ D = Cls w [] [.sl gv1 50 3 (zr TLockItem.rowv gq3 gl2), .ss (zs TLockItem.sds gq3 gl2)] ∧ m21_lock_copied_K1 gl2 = some r) ?_ ?_))
  ·
   refine W.seq (W.region (L.y rfl (Y.move rfl) ?_))
   refine L.y rfl (Y.lenMZ (row := TLockItem.rowv) (vs := q0) (l := a0) Try.underlying23 rfl (fun w' hw => hA0.cls0 hw)) ?_
   refine L.y rfl (Y.move rfl) ?_
   refine L.nil (E.thenN (W.block (W.nilZ 50 3 TLockItem.rowv TLockItem.sds (fun _ => []) ?_)))
   refine W.loopJ (fun m gs D => ∃ (gv4 : Value) (gl5 : (List TLockItem)) (gq6 : Nat → List Value) (gx7 : Int), gs = [(3, gv4), (6, u0), (7, .int .i64 (a0.length : Int)), (8, .int .i64 gx7)] ∧ D = Cls w [] [.sl gv4 50 3 (zr TLockItem.rowv gq6 gl5), .ss (zs TLockItem.sds gq6 gl5)] ∧ m21_lock_copied_L1 a0 m gl5 gx7 = some r) ⟨.slice none 0 0, [], (fun _ => []), 0, rfl, rfl, h⟩ ⟨rfl, rfl, rfl, rfl, trivial⟩ (fun _ hw => hw) ?_
   rintro m _ _ ⟨gv4, gl5, gq6, gx7, rfl, rfl, h⟩
   rcases m with _ | m
   · rw [m21_lock_copied_L1] at h; cases h
   rw [m21_lock_copied_L1] at h
   generalize hg1 : m21_lock_copied_L1 a0 m = go1 at h
   rw [m21_lock_copied_L1B] at h
   refine W.seq (W.region (L.ite h rfl (Y.lss rfl rfl) (fun c1 h => ?_) (fun c1 h => ?_)))
   ·
    refine L.nil (E.thenN (W.seq (W.condT rfl ?_)))
    refine W.skip (E.thenN (W.seq (W.block (W.seq (W.region (L.m (V := fun _ => el u0 (gx7.toNat * 3)) h rfl (Y.indexMZ (row := TLockItem.rowv) (vs := q0) (l := a0) Try.underlying23 sz50 rfl rfl (fun w' hw => hA0.cls0 hw)) (fun x2 ex2 h => ?_)))))))
    refine L.y rfl (Y.loadEN (r := [.int .i64 x2.Item, gv (q0 gx7.toNat) 0, gv (q0 gx7.toNat) 1]) ag50 sz50 rfl (fun w' hw => hA0.cls0 hw) (zr_idx (vs := q0) ex2) rfl) ?_
    refine L.alloc rfl ze50 ?_
    intro b3
    refine L.storeC (i := 0) sz50 rfl rfl rfl rfl (fun w hw => (all1 rfl (all1 ((zAt (sds := TLockItem.sds) (vs := q0) (j := 0) (c := 2) hD0 (fun _ _ => rfl) ex2 rfl).cls0 hw).one (all1 ((zAt (sds := TLockItem.sds) (vs := q0) (j := 1) (c := 2) hD0 (fun _ _ => rfl) ex2 rfl).cls0 hw).one all0)))) rfl (Nat.le_of_ble_eq_true rfl) ?_
    refine L.nil (E.thenN (W.drawn2 (k := 13) (stC [[10, 11], [11]] [Cls w [] [.obj b3 [.int .i64 x2.Item, gv (q0 gx7.toNat) 0, gv (q0 gx7.toNat) 1] 50, .sl gv4 50 3 (zr TLockItem.rowv gq6 gl5), .ss (zs TLockItem.sds gq6 gl5)], Cls w [] [.obj b3 [.int .i64 x2.Item, gv (q0 gx7.toNat) 0, gv (q0 gx7.toNat) 1] 50, .sl gv4 50 3 (zr TLockItem.rowv gq6 gl5), .ss (zs TLockItem.sds gq6 gl5)]] (Cls w [] [.obj b3 [.int .i64 x2.Item, gv (q0 gx7.toNat) 0, gv (q0 gx7.toNat) 1] 50])) rfl mixed (fun _ hw => hw.drew) (Sc.now (by kernel_rfl) (fun _ hw => hw)) ?_))
    refine V2.y (i := 0) (Nx2.of (Z := Cls w [] [.obj b3 [.int .i64 x2.Item, gv (q0 gx7.toNat) 0, gv (q0 gx7.toNat) 1] 50]) [] (by kernel_rfl) rfl (Zc.on (fun _ hw => hw.sel [0] (by decide) rfl) (Zc.on (fun _ hw => hw.sel [0] (by decide) rfl) (Zc.fin (fun _ hw => hw))))) rfl rfl rfl (Y.move rfl) ?_
    refine V2.y (i := 1) (Nx2.of (Z := Cls w [] [.obj b3 [.int .i64 x2.Item, gv (q0 gx7.toNat) 0, gv (q0 gx7.toNat) 1] 50]) [] (by kernel_rfl) rfl (Zc.on (fun _ hw => hw.sel [0] (by decide) rfl) (Zc.on (fun _ hw => hw.sel [0] (by decide) rfl) (Zc.fin (fun _ hw => hw))))) rfl rfl rfl (Y.fieldP fd50_0 rfl) ?_
    refine V2.y (i := 2) (Nx2.of (Z := Cls w [] [.obj b3 [.int .i64 x2.Item, gv (q0 gx7.toNat) 0, gv (q0 gx7.toNat) 1] 50]) [] (by kernel_rfl) rfl (Zc.on (fun _ hw => hw.sel [0] (by decide) rfl) (Zc.on (fun _ hw => hw.sel [0] (by decide) rfl) (Zc.fin (fun _ hw => hw))))) rfl rfl rfl (Y.loadP (i := 0) ag3 rfl rfl rfl) ?_
    refine V2.y (i := 3) (Nx2.of (Z := Cls w [] [.obj b3 [.int .i64 x2.Item, gv (q0 gx7.toNat) 0, gv (q0 gx7.toNat) 1] 50]) [] (by kernel_rfl) rfl (Zc.on (fun _ hw => hw.sel [0] (by decide) rfl) (Zc.on (fun _ hw => hw.sel [0] (by decide) rfl) (Zc.fin (fun _ hw => hw))))) rfl rfl rfl (Y.fieldP fd50_1 rfl) ?_
    refine V2.y (i := 4) (Nx2.of (Z := Cls w [] [.obj b3 [.int .i64 x2.Item, gv (q0 gx7.toNat) 0, gv (q0 gx7.toNat) 1] 50]) [] (by kernel_rfl) rfl (Zc.on (fun _ hw => hw.sel [0] (by decide) rfl) (Zc.on (fun _ hw => hw.sel [0] (by decide) rfl) (Zc.fin (fun _ hw => hw))))) rfl rfl rfl (Y.loadP (i := 0) ag48 rfl rfl rfl) ?_
    refine V2.y (i := 6) (Nx2.of (Z := Cls w [] [.obj b3 [.int .i64 x2.Item, gv (q0 gx7.toNat) 0, gv (q0 gx7.toNat) 1] 50]) [] (by kernel_rfl) rfl (Zc.on (fun _ hw => hw.sel [0] (by decide) rfl) (Zc.on (fun _ hw => hw.sel [0] (by decide) rfl) (Zc.fin (fun _ hw => hw))))) rfl rfl rfl (Y.fieldP fd50_2 rfl) ?_
    refine V2.y (i := 7) (Nx2.of (Z := Cls w [] [.obj b3 [.int .i64 x2.Item, gv (q0 gx7.toNat) 0, gv (q0 gx7.toNat) 1] 50]) [] (by kernel_rfl) rfl (Zc.on (fun _ hw => hw.sel [0] (by decide) rfl) (Zc.on (fun _ hw => hw.sel [0] (by decide) rfl) (Zc.fin (fun _ hw => hw))))) rfl rfl rfl (Y.loadP (i := 0) ag48 rfl rfl rfl) ?_
    refine V2.eff (i := 5) (by kernel_rfl) rfl ?_
    obtain ⟨l53, e55, h⟩ := bind1S h
    refine L.does rfl en47 rfl (fun w' hw => w47_api_Lock x2.Held (gv (q0 gx7.toNat) 0) w' _ e55 ((zAt (sds := TLockItem.sds) (vs := q0) (j := 0) (c := 2) hD0 (fun _ _ => rfl) ex2 rfl).cls0 hw)) ?_
    rintro v54 _ ⟨_, rfl, rfl⟩
    refine L.nil (E.toV2 (stC [[10, 11], [11]] [Cls w [] [.sl v54 55 2 (l53.map TLock.row), .obj b3 [.int .i64 x2.Item, gv (q0 gx7.toNat) 0, gv (q0 gx7.toNat) 1] 50, .sl gv4 50 3 (zr TLockItem.rowv gq6 gl5), .ss (zs TLockItem.sds gq6 gl5)], Cls w [] [.obj b3 [.int .i64 x2.Item, gv (q0 gx7.toNat) 0, gv (q0 gx7.toNat) 1] 50, .sl gv4 50 3 (zr TLockItem.rowv gq6 gl5), .ss (zs TLockItem.sds gq6 gl5)]] (Cls w [] [.obj b3 [.int .i64 x2.Item, gv (q0 gx7.toNat) 0, gv (q0 gx7.toNat) 1] 50])) 5 (by kernel_rfl) (Sc.stay (fun _ hw => hw.sel [1, 2, 3] (by decide) rfl) (Sc.stay (fun _ hw => hw) (Sc.stayD (fun _ hw => hw)))) (Sc.now (by kernel_rfl) (fun _ hw => hw)) ?_)
    refine V2.eff (i := 8) (by kernel_rfl) rfl ?_
    obtain ⟨l56, e58, h⟩ := bind1S h
    refine L.does rfl en47 rfl (fun w' hw => w47_api_Lock x2.Queue (gv (q0 gx7.toNat) 1) w' _ e58 ((zAt (sds := TLockItem.sds) (vs := q0) (j := 1) (c := 2) hD0 (fun _ _ => rfl) ex2 rfl).cls0 hw)) ?_
    rintro v57 _ ⟨_, rfl, rfl⟩
    refine L.nil (E.toV2 (stC [[10, 11], [11]] [Cls w [] [.sl v57 55 2 (l56.map TLock.row), .sl v54 55 2 (l53.map TLock.row), .obj b3 [.int .i64 x2.Item, gv (q0 gx7.toNat) 0, gv (q0 gx7.toNat) 1] 50, .sl gv4 50 3 (zr TLockItem.rowv gq6 gl5), .ss (zs TLockItem.sds gq6 gl5)], Cls w [] [.obj b3 [.int .i64 x2.Item, gv (q0 gx7.toNat) 0, gv (q0 gx7.toNat) 1] 50, .sl gv4 50 3 (zr TLockItem.rowv gq6 gl5), .ss (zs TLockItem.sds gq6 gl5)]] (Cls w [] [.obj b3 [.int .i64 x2.Item, gv (q0 gx7.toNat) 0, gv (q0 gx7.toNat) 1] 50])) 8 (by kernel_rfl) (Sc.stay (fun _ hw => hw.sel [1, 2, 3, 4] (by decide) rfl) (Sc.stay (fun _ hw => hw) (Sc.stayD (fun _ hw => hw)))) (Sc.now (by kernel_rfl) (fun _ hw => hw)) ?_)
    refine V2.eff (i := 9) (by kernel_rfl) rfl ?_
    refine L.y rfl (Y.buildC (cells := #[.int .i64 x2.Item, v54, v57]) rfl (fun w hw => by rcases ((As.at_ (hw.get (i := 1) rfl))).shape with ⟨h0, _⟩ | ⟨_, _, h0, _, _⟩ <;> rcases ((As.at_ (hw.get (i := 0) rfl))).shape with ⟨h1, _⟩ | ⟨_, _, h1, _, _⟩ <;> simp only [h0, h1] <;> kernel_rfl)) ?_
    refine L.nil (E.toV2 (stC [[10, 11], [11]] [Cls w [] [.sl v57 55 2 (l56.map TLock.row), .sl v54 55 2 (l53.map TLock.row), .obj b3 [.int .i64 x2.Item, gv (q0 gx7.toNat) 0, gv (q0 gx7.toNat) 1] 50, .sl gv4 50 3 (zr TLockItem.rowv gq6 gl5), .ss (zs TLockItem.sds gq6 gl5)], Cls w [] [.obj b3 [.int .i64 x2.Item, gv (q0 gx7.toNat) 0, gv (q0 gx7.toNat) 1] 50, .sl gv4 50 3 (zr TLockItem.rowv gq6 gl5), .ss (zs TLockItem.sds gq6 gl5)]] (Cls w [] [.obj b3 [.int .i64 x2.Item, gv (q0 gx7.toNat) 0, gv (q0 gx7.toNat) 1] 50])) 9 (by kernel_rfl) (Sc.stay (fun _ hw => hw) (Sc.stay (fun _ hw => hw) (Sc.stayD (fun _ hw => hw)))) (Sc.now (by kernel_rfl) (fun _ hw => hw)) ?_)
    refine V2.eff (i := 10) (by kernel_rfl) rfl ?_
    refine L.litAgg rfl Try.underlying23 eL50 rfl rfl rfl ?_
    intro b60
    refine L.to (D := Cls w [] [.sl v54 55 2 (l53.map TLock.row), .sl v57 55 2 (l56.map TLock.row), .sl (sv b60 1) 50 3 (zr TLockItem.rowv (fun _ => [v54, v57]) ([(⟨x2.Item, l53, l56⟩ : TLockItem)])), .obj b3 [.int .i64 x2.Item, gv (q0 gx7.toNat) 0, gv (q0 gx7.toNat) 1] 50, .sl gv4 50 3 (zr TLockItem.rowv gq6 gl5), .ss (zs TLockItem.sds gq6 gl5)]) (fun _ hw => hw.sel [2, 1, 0, 3, 4, 5] (by decide) rfl) ?_
    refine L.gath [⟨v54, 55, 2, l53.map TLock.row⟩, ⟨v57, 55, 2, l56.map TLock.row⟩] ?_
    refine L.to (D := Cls w [] [.ss (zs TLockItem.sds (fun _ => [v54, v57]) ([(⟨x2.Item, l53, l56⟩ : TLockItem)])), .sl (sv b60 1) 50 3 (zr TLockItem.rowv (fun _ => [v54, v57]) ([(⟨x2.Item, l53, l56⟩ : TLockItem)])), .obj b3 [.int .i64 x2.Item, gv (q0 gx7.toNat) 0, gv (q0 gx7.toNat) 1] 50, .sl gv4 50 3 (zr TLockItem.rowv gq6 gl5), .ss (zs TLockItem.sds gq6 gl5)]) (fun _ hw => hw) ?_
    refine L.nil (E.toV2 (stC [[11]] [Cls w [] [.ss (zs TLockItem.sds (fun _ => [v54, v57]) ([(⟨x2.Item, l53, l56⟩ : TLockItem)])), .sl (sv b60 1) 50 3 (zr TLockItem.rowv (fun _ => [v54, v57]) ([(⟨x2.Item, l53, l56⟩ : TLockItem)])), .obj b3 [.int .i64 x2.Item, gv (q0 gx7.toNat) 0, gv (q0 gx7.toNat) 1] 50, .sl gv4 50 3 (zr TLockItem.rowv gq6 gl5), .ss (zs TLockItem.sds gq6 gl5)]] (Cls w [] [.obj b3 [.int .i64 x2.Item, gv (q0 gx7.toNat) 0, gv (q0 gx7.toNat) 1] 50])) 10 (by kernel_rfl) (Sc.past rfl (Sc.stay (fun _ hw => hw.sel [2, 3, 4] (by decide) rfl) (Sc.stayD (fun _ hw => hw)))) (Sc.now (by kernel_rfl) (fun _ hw => hw)) ?_)
    refine V2.eff (i := 11) (by kernel_rfl) rfl ?_
    refine L.to (D := Cls w [] [.sl gv4 50 3 (zr TLockItem.rowv gq6 gl5), .ss (zs TLockItem.sds gq6 gl5), .sl (sv b60 1) 50 3 (zr TLockItem.rowv (fun _ => [v54, v57]) ([(⟨x2.Item, l53, l56⟩ : TLockItem)])), .ss (zs TLockItem.sds (fun _ => [v54, v57]) ([(⟨x2.Item, l53, l56⟩ : TLockItem)])), .obj b3 [.int .i64 x2.Item, gv (q0 gx7.toNat) 0, gv (q0 gx7.toNat) 1] 50]) (fun _ hw => hw.sel [3, 4, 1, 0, 2] (by decide) rfl) ?_
    refine L.appZ (row := TLockItem.rowv) (sds := TLockItem.sds) (vs := gq6) (vs2 := (fun _ => [v54, v57])) (l := gl5) (l2 := [(⟨x2.Item, l53, l56⟩ : TLockItem)]) h rfl Try.underlying23 eL50 rfl rfl rfl (fun w hw => plain_zr plz_TLockItem (As.ssOne (hw.get (i := 3) rfl))) ?_
    intro v62 q63 l61 el61 h
    refine L.nil (E.toV2 (stC [] [] (Cls w [] [.sl v62 50 3 (zr TLockItem.rowv q63 l61), .ss (zs TLockItem.sds q63 l61), .obj b3 [.int .i64 x2.Item, gv (q0 gx7.toNat) 0, gv (q0 gx7.toNat) 1] 50])) 11 (by kernel_rfl) (Sc.past rfl (Sc.stayD (fun _ hw => hw.sel [2] (by decide) rfl))) (Sc.atD (fun _ hw => hw)) ?_)
    refine V2.y (i := 12) (Nx2.of (Z := Cls w [] [.sl v62 50 3 (zr TLockItem.rowv q63 l61), .ss (zs TLockItem.sds q63 l61), .obj b3 [.int .i64 x2.Item, gv (q0 gx7.toNat) 0, gv (q0 gx7.toNat) 1] 50]) [] (by kernel_rfl) rfl (Zc.fin (fun _ hw => hw))) rfl rfl rfl (Y.assign rfl) ?_
    refine V2.done (by kernel_rfl) ?_
    refine E.blockN (E.thenN (W.region (L.m (V := fun x64 => .int .i64 x64) h rfl (Y.addM rfl rfl) (fun x64 ex64 h => ?_))))
    refine L.y rfl (Y.move rfl) ?_
    exact L.nil (E.againJ ⟨v62, l61, q63, x64, rfl, rfl, by rw [hg1]; exact h⟩ (Nat.lt_succ_self _) ⟨rfl, rfl, rfl, rfl, trivial⟩ (fun _ hw => hw.sel [0, 1] (by decide) rfl))
   ·
    refine L.nil (E.thenN (W.seq (W.condF rfl ?_)))
    exact W.exit (E.thenX (E.KLX (E.blockX (E.joinJ ⟨gv4, gl5, gq6, rfl, rfl, h⟩ ⟨rfl, trivial⟩ (fun _ hw => hw)))))
  ·
   rintro _ _ ⟨gv1, gl2, gq3, rfl, rfl, h⟩
   rw [m21_lock_copied_K1] at h
   refine W.seq (W.region (L.y rfl (Y.move rfl) ?_))
   refine L.y rfl (Y.assign rfl) ?_
   refine L.nil (E.thenN (W.ret (E.ret1 rfl rfl (fun w1 hw => ?_))))
   obtain rfl := Option.some.inj h
   exact ⟨_, _, rfl, ⟨_, _, rfl, rfl⟩, hw⟩
end Go.Proofs.Ytgkdimboofglfaa
