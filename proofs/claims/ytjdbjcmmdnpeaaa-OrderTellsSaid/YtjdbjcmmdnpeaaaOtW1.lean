/-
  Walks, printed by a program of mine.
  Conditions: none.
-/
import Derived.Test.YtjdbjcmmdnpeaaaOtM
import Derived.Test.YtjdbjcmmdnpeaaaChecked
import Derived.KernelRfl
import Derived.Test.YtjdbjcmmdnpeaaaOtO
namespace Go.Proofs.Ytjdbjcmmdnpeaaa
open Go.S
set_option linter.unusedVariables false
set_option linter.unusedSimpArgs false
theorem mixed : Try.prog.follows .mixedOrders = true := by kernel_rfl
theorem ag3 : aggB Try.prog 3 false = true := by kernel_rfl
theorem ag4 : aggB Try.prog 4 false = true := by kernel_rfl
theorem ag24 : aggB Try.prog 24 false = true := by kernel_rfl
theorem ag25 : aggB Try.prog 25 false = true := by kernel_rfl
theorem ag27 : aggB Try.prog 27 true = true := by kernel_rfl
theorem ag34 : aggB Try.prog 34 false = true := by kernel_rfl
theorem ag37 : aggB Try.prog 37 true = true := by kernel_rfl
theorem ag39 : aggB Try.prog 39 false = true := by kernel_rfl
theorem ag41 : aggB Try.prog 41 true = true := by kernel_rfl
theorem ag45 : aggB Try.prog 45 true = true := by kernel_rfl
theorem eL3 : elemB Try.prog 3 1 8 = true := by kernel_rfl
theorem eL34 : elemB Try.prog 34 1 24 = true := by kernel_rfl
theorem eL41 : elemB Try.prog 41 2 32 = true := by kernel_rfl
theorem eL45 : elemB Try.prog 45 2 16 = true := by kernel_rfl
theorem en4 : entB Try.prog 4 = true := by kernel_rfl
theorem en5 : entB Try.prog 5 = true := by kernel_rfl
theorem en6 : entB Try.prog 6 = true := by kernel_rfl
theorem en7 : entB Try.prog 7 = true := by kernel_rfl
theorem en8 : entB Try.prog 8 = true := by kernel_rfl
theorem en9 : entB Try.prog 9 = true := by kernel_rfl
theorem en10 : entB Try.prog 10 = true := by kernel_rfl
theorem en11 : entB Try.prog 11 = true := by kernel_rfl
theorem en12 : entB Try.prog 12 = true := by kernel_rfl
theorem en13 : entB Try.prog 13 = true := by kernel_rfl
theorem en14 : entB Try.prog 14 = true := by kernel_rfl
theorem en15 : entB Try.prog 15 = true := by kernel_rfl
theorem en16 : entB Try.prog 16 = true := by kernel_rfl
theorem en17 : entB Try.prog 17 = true := by kernel_rfl
theorem en18 : entB Try.prog 18 = true := by kernel_rfl
theorem en19 : entB Try.prog 19 = true := by kernel_rfl
theorem en20 : entB Try.prog 20 = true := by kernel_rfl
theorem en23 : entB Try.prog 23 = true := by kernel_rfl
theorem en24 : entB Try.prog 24 = true := by kernel_rfl
theorem en25 : entB Try.prog 25 = true := by kernel_rfl
theorem en26 : entB Try.prog 26 = true := by kernel_rfl
theorem en29 : entB Try.prog 29 = true := by kernel_rfl
theorem en30 : entB Try.prog 30 = true := by kernel_rfl
theorem en41 : entB Try.prog 41 = true := by kernel_rfl
theorem en42 : entB Try.prog 42 = true := by kernel_rfl
theorem fd27_0 : fieldB Try.prog 27 0 0 = true := by kernel_rfl
theorem fd27_1 : fieldB Try.prog 27 1 1 = true := by kernel_rfl
theorem fd37_0 : fieldB Try.prog 37 0 0 = true := by kernel_rfl
theorem fd37_1 : fieldB Try.prog 37 1 1 = true := by kernel_rfl
theorem fd37_2 : fieldB Try.prog 37 2 2 = true := by kernel_rfl
theorem fd41_0 : fieldB Try.prog 41 0 0 = true := by kernel_rfl
theorem fd41_1 : fieldB Try.prog 41 1 1 = true := by kernel_rfl
theorem fd43_0 : fieldB Try.prog 43 0 0 = true := by kernel_rfl
theorem fd43_1 : fieldB Try.prog 43 1 1 = true := by kernel_rfl
theorem fd45_0 : fieldB Try.prog 45 0 0 = true := by kernel_rfl
theorem fd45_1 : fieldB Try.prog 45 1 1 = true := by kernel_rfl
theorem sz3 : szB Try.prog 3 1 = true := by kernel_rfl
theorem sz24 : szB Try.prog 24 1 = true := by kernel_rfl
theorem sz27 : szB Try.prog 27 2 = true := by kernel_rfl
theorem sz34 : szB Try.prog 34 1 = true := by kernel_rfl
theorem sz37 : szB Try.prog 37 3 = true := by kernel_rfl
theorem sz39 : szB Try.prog 39 1 = true := by kernel_rfl
theorem sz41 : szB Try.prog 41 2 = true := by kernel_rfl
theorem sz43 : szB Try.prog 43 2 = true := by kernel_rfl
theorem sz45 : szB Try.prog 45 2 = true := by kernel_rfl
theorem ze3 : zeroB Try.prog 3 = some [.int .i64 0] := by kernel_rfl
theorem ze27 : zeroB Try.prog 27 = some [.slice none 0 0, .slice none 0 0] := by kernel_rfl
theorem ze34 : zeroB Try.prog 34 = some [.slice none 0 0] := by kernel_rfl
theorem ze35 : zeroB Try.prog 35 = some (List.replicate 12 (.slice none 0 0)) := by kernel_rfl
theorem ze37 : zeroB Try.prog 37 = some [.int .i64 0, .int .i64 0, .int .i64 0] := by kernel_rfl
theorem ze41 : zeroB Try.prog 41 = some [.int .i64 0, .slice none 0 0] := by kernel_rfl
theorem ze45 : zeroB Try.prog 45 = some [.int .i64 0, .int .i64 0] := by kernel_rfl
theorem plain_TGot (l : List TGot) : Plain (l.map TGot.row) := by
  intro r hr u hu
  obtain ⟨x, _, rfl⟩ := List.mem_map.1 hr
  simp only [TGot.row, List.mem_cons, List.not_mem_nil, or_false] at hu
  rcases hu with rfl | rfl <;> rfl
theorem plain_TOp (l : List TOp) : Plain (l.map TOp.row) := by
  intro r hr u hu
  obtain ⟨x, _, rfl⟩ := List.mem_map.1 hr
  simp only [TOp.row, List.mem_cons, List.not_mem_nil, or_false] at hu
  rcases hu with rfl | rfl | rfl <;> rfl
theorem plain_TDid (l : List TDid) : Plain (l.map TDid.row) := by
  intro r hr u hu
  obtain ⟨x, _, rfl⟩ := List.mem_map.1 hr
  simp only [TDid.row, List.mem_cons, List.not_mem_nil, or_false] at hu
  rcases hu with rfl | rfl <;> rfl
theorem plz_TTale : PlZ TTale.rowv TTale.sds := by
  intro x v h u hu
  simp only [TTale.rowv, List.mem_cons, List.not_mem_nil, or_false] at hu
  rcases hu with rfl | rfl
  · rfl
  · exact h ⟨gv v 0, 45, 2, x.Reads.map TGot.row⟩ (by simp [TTale.sds])
theorem eg37 : Try.prog.eqGuardType Try.prog.depth 37 = false := by kernel_rfl
theorem sh37 (x : TOp) : shB Try.prog 5 37 x.row = true := by kernel_rfl
theorem inj37 (x y : TOp) (h : x.row = y.row) : x = y := by
  cases x; cases y
  simpa [TOp.row, st_inj] using h
theorem eg45 : Try.prog.eqGuardType Try.prog.depth 45 = false := by kernel_rfl
theorem sh45 (x : TGot) : shB Try.prog 5 45 x.row = true := by kernel_rfl
theorem inj45 (x y : TGot) (h : x.row = y.row) : x = y := by
  cases x; cases y
  simpa [TGot.row, st_inj] using h
set_option maxRecDepth 100000 in
set_option maxHeartbeats 8000000 in
theorem w20_slices_Index_int (a0 : (List Int)) (a1 : Int) (u0 : Value) (w : World) (r : Int) (h : m20_slices_Index_int a0 a1 = some r) (hA0 : At w u0 1 (a0.map I)) : Does Try.prog 20 [u0, .int .i64 a1] w fun u m => u = .int .i64 r ∧ m = [] := by
  rw [m20_slices_Index_int] at h
  refine body (n := 19) Try.func20 rfl rfl rfl (Cls.refl w) ?_
  refine W.seq (W.region (L.y rfl (Y.assign rfl) ?_))
  refine L.nil (E.thenN (W.seqJ (fun gs D => gs = [] ∧ D = Cls w [] [] ∧ m20_slices_Index_int_K1 = some r) ?_ ?_))
  ·
   refine W.seq (W.region (L.y rfl (Y.move rfl) ?_))
   refine L.y rfl (Y.lenM (g := I) (l := a0) Try.underlying34 rfl (fun w' hw => hA0.cls0 hw)) ?_
   refine L.y rfl (Y.move rfl) ?_
   refine L.nil (E.thenN (W.block (W.loopJ (fun m gs D => ∃ (gx1 : Int), gs = [(0, u0), (1, .int .i64 a1), (7, .int .i64 (a0.length : Int)), (8, .int .i64 gx1)] ∧ D = Cls w [] [] ∧ m20_slices_Index_int_L1 a0 a1 m gx1 = some r) ⟨0, rfl, rfl, h⟩ ⟨rfl, rfl, rfl, rfl, trivial⟩ (fun _ hw => hw) ?_)))
   rintro m _ _ ⟨gx1, rfl, rfl, h⟩
   rcases m with _ | m
   · rw [m20_slices_Index_int_L1] at h; cases h
   rw [m20_slices_Index_int_L1] at h
   generalize hg1 : m20_slices_Index_int_L1 a0 a1 m = go1 at h
   rw [m20_slices_Index_int_L1B] at h
   refine W.seq (W.region (L.ite h rfl (Y.lss rfl rfl) (fun c1 h => ?_) (fun c1 h => ?_)))
   ·
    refine L.nil (E.thenN (W.seq (W.condT rfl ?_)))
    refine W.skip (E.thenN (W.seq (W.block (W.seq (W.region (L.y rfl (Y.move rfl) ?_))))))
    refine L.y rfl (Y.assign rfl) ?_
    refine L.nil (E.thenN (W.seq (W.region (L.y rfl (Y.move rfl) ?_))))
    refine L.y rfl (Y.move rfl) ?_
    refine L.y rfl (Y.move rfl) ?_
    refine L.m (V := fun _ => el u0 (gx1.toNat * 1)) h rfl (Y.indexM (g := I) (l := a0) Try.underlying34 sz3 rfl rfl (fun w' hw => hA0.cls0 hw)) (fun x2 ex2 h => ?_)
    refine L.y rfl (Y.loadE1 (u := .int .i64 x2) ag3 rfl (fun w' hw => hA0.cls0 hw) (idx_map ex2)) ?_
    refine L.ite h rfl (Y.eql rfl rfl) (fun c3 h => ?_) (fun c3 h => ?_)
    ·
     refine L.nil (E.thenN (W.condT rfl ?_))
     refine W.seq (W.region (L.y rfl (Y.move rfl) ?_))
     refine L.y rfl (Y.assign rfl) ?_
     refine L.nil (E.thenN (W.ret (E.blockR (E.thenR (E.KLR (E.blockR (E.KSR (E.ret1 rfl rfl (fun w1 hw => ?_)))))))))
     obtain rfl := Option.some.inj h
     exact ⟨_, _, rfl, ⟨rfl, rfl⟩, hw⟩
    ·
     refine L.nil (E.thenN (W.condF rfl ?_))
     refine W.skip (E.blockN (E.thenN (W.region (L.m (V := fun x4 => .int .i64 x4) h rfl (Y.addM rfl rfl) (fun x4 ex4 h => ?_)))))
     refine L.y rfl (Y.move rfl) ?_
     exact L.nil (E.againJ ⟨x4, rfl, rfl, by rw [hg1]; exact h⟩ (Nat.lt_succ_self _) ⟨rfl, rfl, rfl, rfl, trivial⟩ (fun _ hw => hw))
   ·
    refine L.nil (E.thenN (W.seq (W.condF rfl ?_)))
    exact W.exit (E.thenX (E.KLX (E.blockX (E.joinJ ⟨rfl, rfl, h⟩ trivial (fun _ hw => hw)))))
  ·
   rintro _ _ ⟨rfl, rfl, h⟩
   rw [m20_slices_Index_int_K1] at h
   refine W.seq (W.region (L.y rfl (Y.assign rfl) ?_))
   refine L.nil (E.thenN (W.ret (E.ret1 rfl rfl (fun w1 hw => ?_))))
   obtain rfl := Option.some.inj h
   exact ⟨_, _, rfl, ⟨rfl, rfl⟩, hw⟩
set_option maxRecDepth 100000 in
set_option maxHeartbeats 8000000 in
theorem w7_slices_Contains_int (a0 : (List Int)) (a1 : Int) (u0 : Value) (w : World) (r : Bool) (h : m7_slices_Contains_int a0 a1 = some r) (hA0 : At w u0 1 (a0.map I)) : Does Try.prog 7 [u0, .int .i64 a1] w fun u m => u = .bool r ∧ m = [] := by
  rw [m7_slices_Contains_int] at h
  refine body (n := 9) Try.func7 rfl rfl rfl (Cls.refl w) ?_
  refine W.seq (W.region (L.y rfl (Y.assign rfl) ?_))
  refine L.nil (E.thenN (W.seq (W.region (L.y rfl (Y.move rfl) ?_))))
  refine L.y rfl (Y.move rfl) ?_
  obtain ⟨x1, e2, h⟩ := bind1S h
  refine L.y rfl (Y.does en20 rfl (fun w' hw => (w20_slices_Index_int a0 a1 u0 w' _ e2 (hA0.cls0 hw)).mono (fun _ _ h => h.1))) ?_
  refine L.y rfl (Y.geq rfl rfl) ?_
  refine L.y rfl (Y.assign rfl) ?_
  refine L.nil (E.thenN (W.ret (E.ret1 rfl rfl (fun w1 hw => ?_))))
  obtain rfl := Option.some.inj h
  exact ⟨_, _, rfl, ⟨rfl, rfl⟩, hw⟩
set_option maxRecDepth 100000 in
set_option maxHeartbeats 8000000 in
theorem w23_cmp_isNaN_int (a0 : Int) (w : World) (r : Bool) (h : m23_cmp_isNaN_int a0 = some r) : Does Try.prog 23 [.int .i64 a0] w fun u m => u = .bool r ∧ m = [] := by
  rw [m23_cmp_isNaN_int] at h
  refine body (n := 6) Try.func23 rfl rfl rfl (Cls.refl w) ?_
  refine W.seq (W.region (L.y rfl (Y.assign rfl) ?_))
  refine L.nil (E.thenN (W.seq (W.region (L.y rfl (Y.move rfl) ?_))))
  refine L.y rfl (Y.move rfl) ?_
  refine L.y rfl (Y.neq rfl rfl) ?_
  refine L.y rfl (Y.assign rfl) ?_
  refine L.nil (E.thenN (W.ret (E.ret1 rfl rfl (fun w1 hw => ?_))))
  obtain rfl := Option.some.inj h
  exact ⟨_, _, rfl, ⟨rfl, rfl⟩, hw⟩
set_option maxRecDepth 100000 in
set_option maxHeartbeats 8000000 in
theorem w10_cmp_Compare_int (a0 : Int) (a1 : Int) (w : World) (r : Int) (h : m10_cmp_Compare_int a0 a1 = some r) : Does Try.prog 10 [.int .i64 a0, .int .i64 a1] w fun u m => u = .int .i64 r ∧ m = [] := by
  rw [m10_cmp_Compare_int] at h
  refine body (n := 20) Try.func10 rfl rfl rfl (Cls.refl w) ?_
  refine W.seq (W.region (L.y rfl (Y.assign rfl) ?_))
  refine L.nil (E.thenN (W.seqJ (fun gs D => ∃ (gb1 : Bool), gs = [(0, .int .i64 a0), (1, .int .i64 a1), (5, .bool gb1)] ∧ D = Cls w [] [] ∧ m10_cmp_Compare_int_K1 a1 a0 gb1 = some r) ?_ ?_))
  ·
   refine W.region (L.y rfl (Y.move rfl) ?_)
   obtain ⟨b7, e8, h⟩ := bind1S h
   refine L.y rfl (Y.does en23 rfl (fun w' hw => (w23_cmp_isNaN_int a0 w' _ e8).mono (fun _ _ h => h.1))) ?_
   rcases b7 with _ | _
   ·
    replace h := iteF h
    refine L.y rfl (Y.assign rfl) ?_
    exact L.nil (E.joinJ ⟨false, rfl, rfl, h⟩ ⟨rfl, rfl, rfl, trivial⟩ (fun _ hw => hw))
   ·
    replace h := iteT h
    refine L.y rfl (Y.assign rfl) ?_
    exact L.nil (E.joinJ ⟨true, rfl, rfl, h⟩ ⟨rfl, rfl, rfl, trivial⟩ (fun _ hw => hw))
  ·
   rintro _ _ ⟨gb1, rfl, rfl, h⟩
   rw [m10_cmp_Compare_int_K1] at h
   rcases gb1 with _ | _
   ·
    replace h := iteF h
    refine W.seq (W.region (L.y rfl (Y.move rfl) ?_))
    obtain ⟨b1, e2, h⟩ := bind1S h
    refine L.y rfl (Y.does en23 rfl (fun w' hw => (w23_cmp_isNaN_int a1 w' _ e2).mono (fun _ _ h => h.1))) ?_
    rcases b1 with _ | _
    ·
     replace h := iteF h
     refine L.y rfl (Y.assign rfl) ?_
     refine L.nil (E.thenN (W.seq (W.seq (W.region (L.y rfl (Y.move rfl) ?_)))))
     refine L.nil (E.thenN (W.condF rfl ?_))
     refine W.skip (E.thenN (W.seq (W.seq (W.region (L.y rfl (Y.move rfl) ?_)))))
     refine L.nil (E.thenN (W.condF rfl ?_))
     refine W.skip (E.thenN (W.seq (W.seq (W.region (L.y rfl (Y.move rfl) ?_)))))
     refine L.y rfl (Y.move rfl) ?_
     refine L.ite h rfl (Y.lss rfl rfl) (fun c3 h => ?_) (fun c3 h => ?_)
     ·
      refine L.nil (E.thenN (W.condT rfl ?_))
      refine W.seq (W.region (L.y rfl (Y.assign rfl) ?_))
      refine L.nil (E.thenN (W.ret (E.thenR (E.ret1 rfl rfl (fun w1 hw => ?_)))))
      obtain rfl := Option.some.inj h
      exact ⟨_, _, rfl, ⟨rfl, rfl⟩, hw⟩
     ·
      refine L.nil (E.thenN (W.condF rfl ?_))
      refine W.skip (E.thenN (W.seq (W.seq (W.region (L.y rfl (Y.move rfl) ?_)))))
      refine L.y rfl (Y.move rfl) ?_
      refine L.ite h rfl (Y.gtr rfl rfl) (fun c4 h => ?_) (fun c4 h => ?_)
      ·
       refine L.nil (E.thenN (W.condT rfl ?_))
       refine W.seq (W.region (L.y rfl (Y.assign rfl) ?_))
       refine L.nil (E.thenN (W.ret (E.thenR (E.ret1 rfl rfl (fun w1 hw => ?_)))))
       obtain rfl := Option.some.inj h
       exact ⟨_, _, rfl, ⟨rfl, rfl⟩, hw⟩
      ·
       refine L.nil (E.thenN (W.condF rfl ?_))
       refine W.skip (E.thenN (W.seq (W.region (L.y rfl (Y.assign rfl) ?_))))
       refine L.nil (E.thenN (W.ret (E.ret1 rfl rfl (fun w1 hw => ?_))))
       obtain rfl := Option.some.inj h
       exact ⟨_, _, rfl, ⟨rfl, rfl⟩, hw⟩
    ·
     replace h := iteT h
     refine L.y rfl (Y.assign rfl) ?_
     refine L.nil (E.thenN (W.seq (W.seq (W.region (L.y rfl (Y.move rfl) ?_)))))
     refine L.nil (E.thenN (W.condF rfl ?_))
     refine W.skip (E.thenN (W.seq (W.seq (W.region (L.y rfl (Y.move rfl) ?_)))))
     refine L.nil (E.thenN (W.condT rfl ?_))
     refine W.seq (W.region (L.y rfl (Y.assign rfl) ?_))
     refine L.nil (E.thenN (W.ret (E.thenR (E.ret1 rfl rfl (fun w1 hw => ?_)))))
     obtain rfl := Option.some.inj h
     exact ⟨_, _, rfl, ⟨rfl, rfl⟩, hw⟩
   ·
    replace h := iteT h
    refine W.seq (W.region (L.y rfl (Y.move rfl) ?_))
    obtain ⟨b5, e6, h⟩ := bind1S h
    refine L.y rfl (Y.does en23 rfl (fun w' hw => (w23_cmp_isNaN_int a1 w' _ e6).mono (fun _ _ h => h.1))) ?_
    rcases b5 with _ | _
    ·
     replace h := iteF h
     refine L.y rfl (Y.assign rfl) ?_
     refine L.nil (E.thenN (W.seq (W.seq (W.region (L.y rfl (Y.move rfl) ?_)))))
     refine L.nil (E.thenN (W.condT rfl ?_))
     refine W.seq (W.seq (W.region (L.y rfl (Y.move rfl) ?_)))
     refine L.nil (E.thenN (W.condF rfl ?_))
     refine W.skip (E.thenN (W.seq (W.region (L.y rfl (Y.assign rfl) ?_))))
     refine L.nil (E.thenN (W.ret (E.thenR (E.ret1 rfl rfl (fun w1 hw => ?_)))))
     obtain rfl := Option.some.inj h
     exact ⟨_, _, rfl, ⟨rfl, rfl⟩, hw⟩
    ·
     replace h := iteT h
     refine L.y rfl (Y.assign rfl) ?_
     refine L.nil (E.thenN (W.seq (W.seq (W.region (L.y rfl (Y.move rfl) ?_)))))
     refine L.nil (E.thenN (W.condT rfl ?_))
     refine W.seq (W.seq (W.region (L.y rfl (Y.move rfl) ?_)))
     refine L.nil (E.thenN (W.condT rfl ?_))
     refine W.seq (W.region (L.y rfl (Y.assign rfl) ?_))
     refine L.nil (E.thenN (W.ret (E.thenR (E.thenR (E.ret1 rfl rfl (fun w1 hw => ?_))))))
     obtain rfl := Option.some.inj h
     exact ⟨_, _, rfl, ⟨rfl, rfl⟩, hw⟩
set_option maxRecDepth 100000 in
set_option maxHeartbeats 8000000 in
theorem w9_order_Of_1 (a0 : TTale) (a1 : TTale) (u0_0 : Value) (u1_1 : Value) (w : World) (r : Int) (h : m9_order_Of_1 a0 a1 = some r) (hA0_0 : At w u0_0 2 (a0.Reads.map TGot.row)) (hA1_1 : At w u1_1 2 (a1.Reads.map TGot.row)) : Does Try.prog 9 [.agg #[.int .i64 a0.Tx, u0_0], .agg #[.int .i64 a1.Tx, u1_1]] w fun u m => u = .int .i64 r ∧ m = [] := by
  rw [m9_order_Of_1] at h
  refine body (n := 10) Try.func9 rfl rfl rfl (Cls.refl w) ?_
  refine W.seq (W.region (L.box rfl rfl ?_))
  intro b1
  refine L.box rfl rfl ?_
  intro b2
  refine L.y rfl (Y.assign rfl) ?_
  refine L.nil (E.thenN (W.seq (W.region (L.y rfl (Y.fieldP fd41_0 rfl) ?_))))
  refine L.y rfl (Y.loadP (i := 1) ag3 rfl rfl rfl) ?_
  refine L.y rfl (Y.fieldP fd41_0 rfl) ?_
  refine L.y rfl (Y.loadP (i := 0) ag3 rfl rfl rfl) ?_
  obtain ⟨x3, e4, h⟩ := bind1S h
  refine L.y rfl (Y.does en10 rfl (fun w' hw => (w10_cmp_Compare_int a0.Tx a1.Tx w' _ e4).mono (fun _ _ h => h.1))) ?_
  refine L.y rfl (Y.assign rfl) ?_
  refine L.nil (E.thenN (W.ret (E.ret1 rfl rfl (fun w1 hw => ?_))))
  obtain rfl := Option.some.inj h
  exact ⟨_, _, rfl, ⟨rfl, rfl⟩, hw.sel [] (by decide) rfl⟩
set_option maxRecDepth 100000 in
set_option maxHeartbeats 8000000 in
theorem w11_order_Check (a0 : TStory) (u0_0 : Value) (q0_0 : Nat → List Value) (u0_2 : Value) (q0_2 : Nat → List Value) (K : World → Prop) (w : World) (hK : StbF K w []) (r : Int) (h : m11_order_Check a0 = some r) (hA0_0 : Fz K [] u0_0 2 (zr TTale.rowv q0_0 a0.Tales)) (hD0_0 : FzA K [] (zs TTale.sds q0_0 a0.Tales)) (hA0_2 : Fz K [] u0_2 1 (zr svRow q0_2 a0.Versions)) (hD0_2 : FzA K [] (zs (svSd 3 1 I) q0_2 a0.Versions)) : Does Try.prog 11 [.agg #[u0_0, u0_2]] w fun u m => u = .int .i64 r ∧ m = [] := by
  rw [m11_order_Check] at h
  refine body (n := 123) Try.func11 rfl rfl rfl (Cls.reflF w) ?_
  refine W.seq (W.region (L.box rfl rfl ?_))
  intro b1
  refine L.y rfl (Y.assign rfl) ?_
  refine L.nil (E.thenN (W.seqJ (fun gs D => gs = [(1, pt b1 0)] ∧ D = Cls w [] [.obj b1 [u0_0, u0_2] 27, .os []] ∧ m11_order_Check_K1 a0 = some r) ?_ ?_))
  ·
   refine W.seq (W.region (L.y rfl (Y.fieldP fd27_0 rfl) ?_))
   refine L.y rfl (Y.loadP (i := 0) ag24 rfl rfl rfl) ?_
   refine L.y rfl (Y.lenMZ (row := TTale.rowv) (vs := q0_0) (l := a0.Tales) Try.underlying24 rfl (fun w' hw => (hA0_0.up.clsP hK hw rfl))) ?_
   refine L.ite h rfl (Y.gtr rfl rfl) (fun c38 h => ?_) (fun c38 h => ?_)
   ·
    refine L.y rfl (Y.move rfl) ?_
    refine L.pass rfl rfl (by nofun) ?_
    refine L.pass rfl rfl (by nofun) ?_
    refine L.pass rfl rfl (by nofun) ?_
    refine L.pass rfl rfl (by nofun) ?_
    refine L.y rfl (Y.pickT rfl rfl) ?_
    refine L.nil (E.thenN (W.condT rfl ?_))
    refine W.seq (W.region (L.y rfl (Y.assign rfl) ?_))
    refine L.nil (E.thenN (W.ret (E.KSR (E.ret1 rfl rfl (fun w1 hw => ?_)))))
    obtain rfl := Option.some.inj h
    exact ⟨_, _, rfl, ⟨rfl, rfl⟩, hw.sel [] (by decide) rfl⟩
   ·
    refine L.y rfl (Y.move rfl) ?_
    refine L.take rfl (L.y rfl (Y.fieldP fd27_1 rfl) ?_)
    refine L.take rfl (L.y rfl (Y.loadP (i := 0) ag25 rfl rfl rfl) ?_)
    refine L.take rfl (L.y rfl (Y.lenMZ (row := svRow) (vs := q0_2) (l := a0.Versions) Try.underlying25 rfl (fun w' hw => (hA0_2.up.clsP hK hw rfl))) ?_)
    refine L.take rfl (L.ite h rfl (Y.gtr rfl rfl) (fun c39 h => ?_) (fun c39 h => ?_))
    ·
     refine L.y rfl (Y.pickF rfl rfl) ?_
     refine L.nil (E.thenN (W.condT rfl ?_))
     refine W.seq (W.region (L.y rfl (Y.assign rfl) ?_))
     refine L.nil (E.thenN (W.ret (E.KSR (E.ret1 rfl rfl (fun w1 hw => ?_)))))
     obtain rfl := Option.some.inj h
     exact ⟨_, _, rfl, ⟨rfl, rfl⟩, hw.sel [] (by decide) rfl⟩
    ·
     refine L.y rfl (Y.pickF rfl rfl) ?_
     refine L.nil (E.thenN (W.condF rfl ?_))
     exact W.skip (E.joinJ ⟨rfl, rfl, h⟩ ⟨rfl, trivial⟩ (fun _ hw => hw))
  ·
   rintro _ _ ⟨rfl, rfl, h⟩
   rw [m11_order_Check_K1] at h
   refine W.seqJ (fun gs D => gs = [(1, pt b1 0)] ∧ D = Cls w [] [.obj b1 [u0_0, u0_2] 27, .os []] ∧ m11_order_Check_K2 a0 = some r) ?_ ?_
   ·
    refine W.seq (W.region (L.y rfl (Y.fieldP fd27_0 rfl) ?_))
    refine L.y rfl (Y.loadP (i := 0) ag24 rfl rfl rfl) ?_
    refine L.y rfl (Y.lenMZ (row := TTale.rowv) (vs := q0_0) (l := a0.Tales) Try.underlying24 rfl (fun w' hw => (hA0_0.up.clsP hK hw rfl))) ?_
    refine L.y rfl (Y.move rfl) ?_
    refine L.nil (E.thenN (W.block (W.loopJ (fun m gs D => ∃ (gx6 : Int), gs = [(1, pt b1 0), (22, u0_0), (23, .int .i64 (a0.Tales.length : Int)), (24, .int .i64 gx6)] ∧ D = Cls w [] [.obj b1 [u0_0, u0_2] 27, .os []] ∧ m11_order_Check_L4 a0 m gx6 = some r) ⟨0, rfl, rfl, h⟩ ⟨rfl, rfl, rfl, rfl, trivial⟩ (fun _ hw => hw) ?_)))
    rintro m _ _ ⟨gx6, rfl, rfl, h⟩
    rcases m with _ | m
    · rw [m11_order_Check_L4] at h; cases h
    rw [m11_order_Check_L4] at h
    generalize hg4 : m11_order_Check_L4 a0 m = go4 at h
    rw [m11_order_Check_L4B] at h
    refine W.seq (W.region (L.ite h rfl (Y.lss rfl rfl) (fun c16 h => ?_) (fun c16 h => ?_)))
    ·
     refine L.nil (E.thenN (W.seq (W.condT rfl ?_)))
     refine W.skip (E.thenN (W.seqJ (fun gs D => gs = [(1, pt b1 0), (22, u0_0), (23, .int .i64 (a0.Tales.length : Int)), (24, .int .i64 gx6)] ∧ D = Cls w [] [.obj b1 [u0_0, u0_2] 27, .os []] ∧ m11_order_Check_K9 gx6 go4 = some r) ?_ ?_))
     ·
      refine W.block (W.seq (W.region (L.y rfl (Y.move rfl) ?_)))
      refine L.m (V := fun _ => el u0_0 (gx6.toNat * 2)) h rfl (Y.indexMZ (row := TTale.rowv) (vs := q0_0) (l := a0.Tales) Try.underlying24 sz41 rfl rfl (fun w' hw => (hA0_0.up.clsP hK hw rfl))) (fun x18 ex18 h => ?_)
      refine L.y rfl (Y.loadEN (r := [.int .i64 x18.Tx, gv (q0_0 gx6.toNat) 0]) ag41 sz41 rfl (fun w' hw => (hA0_0.up.clsP hK hw rfl)) (zr_idx (vs := q0_0) ex18) rfl) ?_
      refine L.alloc rfl ze41 ?_
      intro b19
      refine L.y rfl (Y.assign rfl) ?_
      refine L.storeC (i := 0) sz41 rfl rfl rfl rfl (fun w hw => (all1 rfl (all1 (((FzA.at (sds := TTale.sds) (vs := q0_0) (j := 0) (nl := 1) hD0_0 (fun _ _ => rfl) ex18 rfl).up).clsP hK hw rfl).one all0))) rfl (Nat.le_of_ble_eq_true rfl) ?_
      refine L.nil (E.thenN (W.seqJ (fun gs D => gs = [(1, pt b1 0), (3, .int .i64 gx6), (4, pt b19 0), (22, u0_0), (23, .int .i64 (a0.Tales.length : Int)), (24, .int .i64 gx6)] ∧ D = Cls w [] [.obj b19 [.int .i64 x18.Tx, gv (q0_0 gx6.toNat) 0] 41, .obj b1 [u0_0, u0_2] 27, .os []] ∧ m11_order_Check_K10 gx6 a0 x18 go4 = some r) ?_ ?_))
      ·
       refine W.seq (W.region (L.y rfl (Y.fieldP fd41_0 rfl) ?_))
       refine L.y rfl (Y.loadP (i := 0) ag3 rfl rfl rfl) ?_
       refine L.ite h rfl (Y.lss rfl rfl) (fun c36 h => ?_) (fun c36 h => ?_)
       ·
        refine L.y rfl (Y.move rfl) ?_
        refine L.pass rfl rfl (by nofun) ?_
        refine L.pass rfl rfl (by nofun) ?_
        refine L.pass rfl rfl (by nofun) ?_
        refine L.y rfl (Y.pickT rfl rfl) ?_
        refine L.nil (E.thenN (W.condT rfl ?_))
        refine W.seq (W.region (L.y rfl (Y.assign rfl) ?_))
        refine L.nil (E.thenN (W.ret (E.KSR (E.blockR (E.KSR (E.KLR (E.blockR (E.KSR (E.ret1 rfl rfl (fun w1 hw => ?_))))))))))
        obtain rfl := Option.some.inj h
        exact ⟨_, _, rfl, ⟨rfl, rfl⟩, hw.sel [] (by decide) rfl⟩
       ·
        refine L.y rfl (Y.move rfl) ?_
        refine L.take rfl (L.y rfl (Y.fieldP fd41_0 rfl) ?_)
        refine L.take rfl (L.y rfl (Y.loadP (i := 0) ag3 rfl rfl rfl) ?_)
        refine L.take rfl (L.ite h rfl (Y.geq rfl rfl) (fun c37 h => ?_) (fun c37 h => ?_))
        ·
         refine L.y rfl (Y.pickF rfl rfl) ?_
         refine L.nil (E.thenN (W.condT rfl ?_))
         refine W.seq (W.region (L.y rfl (Y.assign rfl) ?_))
         refine L.nil (E.thenN (W.ret (E.KSR (E.blockR (E.KSR (E.KLR (E.blockR (E.KSR (E.ret1 rfl rfl (fun w1 hw => ?_))))))))))
         obtain rfl := Option.some.inj h
         exact ⟨_, _, rfl, ⟨rfl, rfl⟩, hw.sel [] (by decide) rfl⟩
        ·
         refine L.y rfl (Y.pickF rfl rfl) ?_
         refine L.nil (E.thenN (W.condF rfl ?_))
         exact W.skip (E.joinJ ⟨rfl, rfl, h⟩ ⟨rfl, rfl, rfl, rfl, rfl, rfl, trivial⟩ (fun _ hw => hw))
      ·
       rintro _ _ ⟨rfl, rfl, h⟩
       rw [m11_order_Check_K10] at h
       refine W.seqJ (fun gs D => gs = [(1, pt b1 0), (4, pt b19 0), (22, u0_0), (23, .int .i64 (a0.Tales.length : Int)), (24, .int .i64 gx6)] ∧ D = Cls w [] [.obj b19 [.int .i64 x18.Tx, gv (q0_0 gx6.toNat) 0] 41, .obj b1 [u0_0, u0_2] 27, .os []] ∧ m11_order_Check_K11 x18 a0 gx6 go4 = some r) ?_ ?_
       ·
        refine W.seq (W.quietC mixed (by kernel_rfl) (fun _ hw => hw.drew) (fun hC => ?_))
        refine U.y rfl (Y.move rfl) ?_
        refine U.ite h rfl (Y.gtr rfl rfl) (fun c32 h => ?_) (fun c32 h => ?_)
        ·
         refine U.y rfl (Y.move rfl) ?_
         refine U.take rfl (U.y rfl (Y.fieldP fd41_0 rfl) ?_)
         refine U.take rfl (U.y rfl (Y.loadP (i := 0) ag3 rfl rfl rfl) ?_)
         refine U.take rfl (U.y rfl (Y.fieldP fd27_0 rfl) ?_)
         refine U.take rfl (U.y rfl (Y.loadP (i := 1) ag24 rfl rfl rfl) ?_)
         refine U.take rfl (U.y rfl (Y.move rfl) ?_)
         refine U.take rfl (U.m (V := fun x33 => .int .i64 x33) h rfl (Y.subM rfl rfl) (fun x33 ex33 h => ?_))
         refine U.take rfl (U.m (V := fun _ => el u0_0 (x33.toNat * 2)) h rfl (Y.indexMZ (row := TTale.rowv) (vs := q0_0) (l := a0.Tales) Try.underlying24 sz41 rfl rfl (fun w' hw => (hA0_0.up.clsP hK hw rfl))) (fun x34 ex34 h => ?_))
         refine U.take rfl (U.y rfl (Y.fieldE fd41_0 rfl) ?_)
         refine U.take rfl (U.y rfl (Y.loadE (u := .int .i64 x34.Tx) ag3 rfl (fun w' hw => (hA0_0.up.clsP hK hw rfl)) (zr_idx (vs := q0_0) ex34) rfl) ?_)
         refine U.take rfl (U.ite h rfl (Y.leq rfl rfl) (fun c35 h => ?_) (fun c35 h => ?_))
         ·
          refine U.y rfl (Y.pickT rfl rfl) ?_
          refine U.nil (E.thenN (W.condT rfl ?_))
          refine W.seq (W.region (L.y rfl (Y.assign rfl) ?_))
          refine L.nil (E.thenN (W.ret (E.KSR (E.blockR (E.KSR (E.KLR (E.blockR (E.KSR (E.ret1 rfl rfl (fun w1 hw => ?_))))))))))
          obtain rfl := Option.some.inj h
          exact ⟨_, _, rfl, ⟨rfl, rfl⟩, hw.sel [] (by decide) rfl⟩
         ·
          refine U.y rfl (Y.pickT rfl rfl) ?_
          refine U.nil (E.thenN (W.condF rfl ?_))
          exact W.skip (E.joinJ ⟨rfl, rfl, h⟩ ⟨rfl, rfl, rfl, rfl, rfl, trivial⟩ (fun _ hw => hw))
        ·
         refine U.y rfl (Y.move rfl) ?_
         refine U.pass rfl rfl (by nofun) ?_
         refine U.pass rfl rfl (by nofun) ?_
         refine U.pass rfl rfl (by nofun) ?_
         refine U.pass rfl rfl (by nofun) ?_
         refine U.pass rfl rfl (by nofun) ?_
         refine U.pass rfl rfl (by nofun) ?_
         refine U.pass rfl rfl (by nofun) ?_
         refine U.pass rfl rfl (by nofun) ?_
         refine U.pass rfl rfl (by nofun) ?_
         refine U.pass rfl rfl (by nofun) ?_
         refine U.y rfl (Y.pickF rfl rfl) ?_
         refine U.nil (E.thenN (W.condF rfl ?_))
         exact W.skip (E.joinJ ⟨rfl, rfl, h⟩ ⟨rfl, rfl, rfl, rfl, rfl, trivial⟩ (fun _ hw => hw))
       ·
        rintro _ _ ⟨rfl, rfl, h⟩
        rw [m11_order_Check_K11] at h
        refine W.seq (W.region (L.y rfl (Y.fieldP fd41_1 rfl) ?_))
        refine L.y rfl (Y.loadP (i := 0) ag39 rfl rfl rfl) ?_
        refine L.y rfl (Y.lenM (g := TGot.row) (l := x18.Reads) Try.underlying39 rfl (fun w' hw => (((FzA.at (sds := TTale.sds) (vs := q0_0) (j := 0) (nl := 1) hD0_0 (fun _ _ => rfl) ex18 rfl).up).clsP hK hw rfl))) ?_
        refine L.y rfl (Y.move rfl) ?_
        refine L.nil (E.thenN (W.block (W.loopJ (fun m gs D => ∃ (gx7 : Int), gs = [(1, pt b1 0), (4, pt b19 0), (22, u0_0), (23, .int .i64 (a0.Tales.length : Int)), (24, .int .i64 gx6), (52, gv (q0_0 gx6.toNat) 0), (53, .int .i64 (x18.Reads.length : Int)), (54, .int .i64 gx7)] ∧ D = Cls w [] [.obj b19 [.int .i64 x18.Tx, gv (q0_0 gx6.toNat) 0] 41, .obj b1 [u0_0, u0_2] 27, .os []] ∧ m11_order_Check_L5 x18 a0 gx6 go4 m gx7 = some r) ⟨0, rfl, rfl, h⟩ ⟨rfl, rfl, rfl, rfl, rfl, rfl, rfl, rfl, trivial⟩ (fun _ hw => hw) ?_)))
        rintro m _ _ ⟨gx7, rfl, rfl, h⟩
        rcases m with _ | m
        · rw [m11_order_Check_L5] at h; cases h
        rw [m11_order_Check_L5] at h
        generalize hg5 : m11_order_Check_L5 x18 a0 gx6 go4 m = go5 at h
        rw [m11_order_Check_L5B] at h
        refine W.seq (W.region (L.ite h rfl (Y.lss rfl rfl) (fun c20 h => ?_) (fun c20 h => ?_)))
        ·
         refine L.nil (E.thenN (W.seq (W.condT rfl ?_)))
         refine W.skip (E.thenN (W.seq (W.block (W.seq (W.region (L.m (V := fun _ => el (gv (q0_0 gx6.toNat) 0) (gx7.toNat * 2)) h rfl (Y.indexM (g := TGot.row) (l := x18.Reads) Try.underlying39 sz45 rfl rfl (fun w' hw => (((FzA.at (sds := TTale.sds) (vs := q0_0) (j := 0) (nl := 1) hD0_0 (fun _ _ => rfl) ex18 rfl).up).clsP hK hw rfl))) (fun x21 ex21 h => ?_)))))))
         refine L.y rfl (Y.loadEN (r := [.int .i64 x21.Item, .int .i64 x21.From]) ag45 sz45 rfl (fun w' hw => (((FzA.at (sds := TTale.sds) (vs := q0_0) (j := 0) (nl := 1) hD0_0 (fun _ _ => rfl) ex18 rfl).up).clsP hK hw rfl)) (idx_map ex21) rfl) ?_
         refine L.alloc rfl ze45 ?_
         intro b22
         refine L.store (i := 0) (vs := [.int .i64 x21.Item, .int .i64 x21.From]) sz45 rfl rfl rfl rfl (by simp [Value.oneCell', Value.cells, st, pt, el]) rfl (Nat.le_of_ble_eq_true rfl) ?_
         refine L.nil (E.thenN (W.seq (W.quietC mixed (by kernel_rfl) (fun _ hw => hw.drew) (fun hC => ?_))))
         refine U.cutJ hC 11 (fun gs => ∃ (gb8 : Bool), gs = [(1, pt b1 0), (4, pt b19 0), (6, pt b22 0), (22, u0_0), (23, .int .i64 (a0.Tales.length : Int)), (24, .int .i64 gx6), (52, gv (q0_0 gx6.toNat) 0), (53, .int .i64 (x18.Reads.length : Int)), (54, .int .i64 gx7), (68, .bool gb8)] ∧ m11_order_Check_K12 x21 x18 a0 gx7 go5 gb8 = some r) ?_ ?_
         ·
          refine U.y rfl (Y.fieldP fd45_0 rfl) ?_
          refine U.y rfl (Y.loadP (i := 0) ag3 rfl rfl rfl) ?_
          refine U.ite h rfl (Y.lss rfl rfl) (fun c30 h => ?_) (fun c30 h => ?_)
          ·
           refine U.y rfl (Y.move rfl) ?_
           refine U.pass rfl rfl (by nofun) ?_
           refine U.pass rfl rfl (by nofun) ?_
           refine U.pass rfl rfl (by nofun) ?_
           refine U.pass rfl rfl (by nofun) ?_
           refine U.pass rfl rfl (by nofun) ?_
           refine U.pass rfl rfl (by nofun) ?_
           refine U.y rfl (Y.pickT rfl rfl) ?_
           exact U.nil (E.joinU ⟨true, rfl, h⟩ ⟨rfl, rfl, rfl, rfl, rfl, rfl, rfl, rfl, rfl, rfl, trivial⟩)
          ·
           refine U.y rfl (Y.move rfl) ?_
           refine U.take rfl (U.y rfl (Y.fieldP fd45_0 rfl) ?_)
           refine U.take rfl (U.y rfl (Y.loadP (i := 0) ag3 rfl rfl rfl) ?_)
           refine U.take rfl (U.y rfl (Y.fieldP fd27_1 rfl) ?_)
           refine U.take rfl (U.y rfl (Y.loadP (i := 2) ag25 rfl rfl rfl) ?_)
           refine U.take rfl (U.y rfl (Y.lenMZ (row := svRow) (vs := q0_2) (l := a0.Versions) Try.underlying25 rfl (fun w' hw => (hA0_2.up.clsP hK hw rfl))) ?_)
           refine U.take rfl (U.ite h rfl (Y.geq rfl rfl) (fun c31 h => ?_) (fun c31 h => ?_))
           ·
            refine U.y rfl (Y.pickF rfl rfl) ?_
            exact U.nil (E.joinU ⟨true, rfl, h⟩ ⟨rfl, rfl, rfl, rfl, rfl, rfl, rfl, rfl, rfl, rfl, trivial⟩)
           ·
            refine U.y rfl (Y.pickF rfl rfl) ?_
            exact U.nil (E.joinU ⟨false, rfl, h⟩ ⟨rfl, rfl, rfl, rfl, rfl, rfl, rfl, rfl, rfl, rfl, trivial⟩)
         ·
          rintro _ ⟨gb8, rfl, h⟩
          rw [m11_order_Check_K12] at h
          rcases gb8 with _ | _
          ·
           replace h := iteF h
           refine U.y rfl (Y.move rfl) ?_
           refine U.take rfl (U.y rfl (Y.fieldP fd45_1 rfl) ?_)
           refine U.take rfl (U.y rfl (Y.loadP (i := 0) ag3 rfl rfl rfl) ?_)
           refine U.take rfl (U.y rfl (Y.fieldP fd41_0 rfl) ?_)
           refine U.take rfl (U.y rfl (Y.loadP (i := 1) ag3 rfl rfl rfl) ?_)
           refine U.take rfl (U.ite h rfl (Y.eql rfl rfl) (fun c23 h => ?_) (fun c23 h => ?_))
           ·
            refine U.y rfl (Y.pickF rfl rfl) ?_
            refine U.y rfl (Y.move rfl) ?_
            refine U.pass rfl rfl (by nofun) ?_
            refine U.pass rfl rfl (by nofun) ?_
            refine U.pass rfl rfl (by nofun) ?_
            refine U.pass rfl rfl (by nofun) ?_
            refine U.pass rfl rfl (by nofun) ?_
            refine U.pass rfl rfl (by nofun) ?_
            refine U.pass rfl rfl (by nofun) ?_
            refine U.pass rfl rfl (by nofun) ?_
            refine U.pass rfl rfl (by nofun) ?_
            refine U.pass rfl rfl (by nofun) ?_
            refine U.pass rfl rfl (by nofun) ?_
            refine U.pass rfl rfl (by nofun) ?_
            refine U.pass rfl rfl (by nofun) ?_
            refine U.pass rfl rfl (by nofun) ?_
            refine U.pass rfl rfl (by nofun) ?_
            refine U.y rfl (Y.pickT rfl rfl) ?_
            refine U.nil (E.thenN (W.condT rfl ?_))
            refine W.seq (W.region (L.y rfl (Y.assign rfl) ?_))
            refine L.nil (E.thenN (W.ret (E.blockR (E.thenR (E.KLR (E.blockR (E.blockR (E.KSR (E.KLR (E.blockR (E.KSR (E.ret1 rfl rfl (fun w1 hw => ?_)))))))))))))
            obtain rfl := Option.some.inj h
            exact ⟨_, _, rfl, ⟨rfl, rfl⟩, hw.sel [] (by decide) rfl⟩
           ·
            refine U.y rfl (Y.pickF rfl rfl) ?_
            refine U.y rfl (Y.move rfl) ?_
            refine U.take rfl (U.y rfl (Y.fieldP fd45_1 rfl) ?_)
            refine U.take rfl (U.y rfl (Y.loadP (i := 0) ag3 rfl rfl rfl) ?_)
            refine U.take rfl (U.ite h rfl (Y.neq rfl rfl) (fun c24 h => ?_) (fun c24 h => ?_))
            ·
             refine U.take rfl (U.y rfl (Y.move rfl) ?_)
             refine U.take rfl (U.y rfl (Y.fieldP fd27_1 rfl) ?_)
             refine U.take rfl (U.y rfl (Y.loadP (i := 2) ag25 rfl rfl rfl) ?_)
             refine U.take rfl (U.y rfl (Y.fieldP fd45_0 rfl) ?_)
             refine U.take rfl (U.y rfl (Y.loadP (i := 0) ag3 rfl rfl rfl) ?_)
             refine U.take rfl (U.m (V := fun _ => el u0_2 (x21.Item.toNat * 1)) h rfl (Y.indexMZ (row := svRow) (vs := q0_2) (l := a0.Versions) Try.underlying25 sz34 rfl rfl (fun w' hw => (hA0_2.up.clsP hK hw rfl))) (fun x25 ex25 h => ?_))
             refine U.take rfl (U.y rfl (Y.loadE1 (u := gv (q0_2 x21.Item.toNat) 0) ag34 rfl (fun w' hw => (hA0_2.up.clsP hK hw rfl)) (zr_idx (vs := q0_2) ex25)) ?_)
             refine U.take rfl (U.y rfl (Y.fieldP fd45_1 rfl) ?_)
             refine U.take rfl (U.y rfl (Y.loadP (i := 0) ag3 rfl rfl rfl) ?_)
             refine U.take rfl ?_
             obtain ⟨b26, e27, h⟩ := bind1S h
             refine U.y rfl (Y.does en7 rfl (fun w' hw => (w7_slices_Contains_int x25 x21.From (gv (q0_2 x21.Item.toNat) 0) w' _ e27 (((FzA.at (sds := (svSd 3 1 I)) (vs := q0_2) (j := 0) (nl := 1) hD0_2 (fun _ _ => rfl) ex25 rfl).up).clsP hK hw rfl)).mono (fun _ _ h => h.1))) ?_
             rcases b26 with _ | _
             ·
              replace h := iteF h
              refine U.take rfl (U.y rfl (Y.not rfl) ?_)
              refine U.take rfl (U.y rfl (Y.pickT rfl rfl) ?_)
              refine U.y rfl (Y.pickF rfl rfl) ?_
              refine U.nil (E.thenN (W.condT rfl ?_))
              refine W.seq (W.region (L.y rfl (Y.assign rfl) ?_))
              refine L.nil (E.thenN (W.ret (E.blockR (E.thenR (E.KLR (E.blockR (E.blockR (E.KSR (E.KLR (E.blockR (E.KSR (E.ret1 rfl rfl (fun w1 hw => ?_)))))))))))))
              obtain rfl := Option.some.inj h
              exact ⟨_, _, rfl, ⟨rfl, rfl⟩, hw.sel [] (by decide) rfl⟩
             ·
              replace h := iteT h
              refine U.take rfl (U.y rfl (Y.not rfl) ?_)
              refine U.take rfl (U.y rfl (Y.pickT rfl rfl) ?_)
              refine U.y rfl (Y.pickF rfl rfl) ?_
              refine U.nil (E.thenN (W.condF rfl ?_))
              refine W.skip (E.blockN (E.thenN (W.region (L.m (V := fun x28 => .int .i64 x28) h rfl (Y.addM rfl rfl) (fun x28 ex28 h => ?_)))))
              refine L.y rfl (Y.move rfl) ?_
              exact L.nil (E.againJ ⟨x28, rfl, rfl, by rw [hg5]; exact h⟩ (Nat.lt_succ_self _) ⟨rfl, rfl, rfl, rfl, rfl, rfl, rfl, rfl, trivial⟩ (fun _ hw => hw.sel [1, 2, 3] (by decide) rfl))
            ·
             refine U.take rfl (U.y rfl (Y.move rfl) ?_)
             refine U.pass rfl rfl (by nofun) ?_
             refine U.pass rfl rfl (by nofun) ?_
             refine U.pass rfl rfl (by nofun) ?_
             refine U.pass rfl rfl (by nofun) ?_
             refine U.pass rfl rfl (by nofun) ?_
             refine U.pass rfl rfl (by nofun) ?_
             refine U.pass rfl rfl (by nofun) ?_
             refine U.pass rfl rfl (by nofun) ?_
             refine U.pass rfl rfl (by nofun) ?_
             refine U.pass rfl rfl (by nofun) ?_
             refine U.take rfl (U.y rfl (Y.pickF rfl rfl) ?_)
             refine U.y rfl (Y.pickF rfl rfl) ?_
             refine U.nil (E.thenN (W.condF rfl ?_))
             refine W.skip (E.blockN (E.thenN (W.region (L.m (V := fun x29 => .int .i64 x29) h rfl (Y.addM rfl rfl) (fun x29 ex29 h => ?_)))))
             refine L.y rfl (Y.move rfl) ?_
             exact L.nil (E.againJ ⟨x29, rfl, rfl, by rw [hg5]; exact h⟩ (Nat.lt_succ_self _) ⟨rfl, rfl, rfl, rfl, rfl, rfl, rfl, rfl, trivial⟩ (fun _ hw => hw.sel [1, 2, 3] (by decide) rfl))
          ·
           replace h := iteT h
           refine U.y rfl (Y.move rfl) ?_
           refine U.pass rfl rfl (by nofun) ?_
           refine U.pass rfl rfl (by nofun) ?_
           refine U.pass rfl rfl (by nofun) ?_
           refine U.pass rfl rfl (by nofun) ?_
           refine U.pass rfl rfl (by nofun) ?_
           refine U.y rfl (Y.pickT rfl rfl) ?_
           refine U.y rfl (Y.move rfl) ?_
           refine U.pass rfl rfl (by nofun) ?_
           refine U.pass rfl rfl (by nofun) ?_
           refine U.pass rfl rfl (by nofun) ?_
           refine U.pass rfl rfl (by nofun) ?_
           refine U.pass rfl rfl (by nofun) ?_
           refine U.pass rfl rfl (by nofun) ?_
           refine U.pass rfl rfl (by nofun) ?_
           refine U.pass rfl rfl (by nofun) ?_
           refine U.pass rfl rfl (by nofun) ?_
           refine U.pass rfl rfl (by nofun) ?_
           refine U.pass rfl rfl (by nofun) ?_
           refine U.pass rfl rfl (by nofun) ?_
           refine U.pass rfl rfl (by nofun) ?_
           refine U.pass rfl rfl (by nofun) ?_
           refine U.pass rfl rfl (by nofun) ?_
           refine U.y rfl (Y.pickT rfl rfl) ?_
           refine U.nil (E.thenN (W.condT rfl ?_))
           refine W.seq (W.region (L.y rfl (Y.assign rfl) ?_))
           refine L.nil (E.thenN (W.ret (E.blockR (E.thenR (E.KLR (E.blockR (E.blockR (E.KSR (E.KLR (E.blockR (E.KSR (E.ret1 rfl rfl (fun w1 hw => ?_)))))))))))))
           obtain rfl := Option.some.inj h
           exact ⟨_, _, rfl, ⟨rfl, rfl⟩, hw.sel [] (by decide) rfl⟩
        ·
         refine L.nil (E.thenN (W.seq (W.condF rfl ?_)))
         exact W.exit (E.thenX (E.KLX (E.blockX (E.blockN (E.joinJ ⟨rfl, rfl, h⟩ ⟨rfl, rfl, rfl, rfl, trivial⟩ (fun _ hw => hw.sel [1, 2] (by decide) rfl))))))
     ·
      rintro _ _ ⟨rfl, rfl, h⟩
      rw [m11_order_Check_K9] at h
      refine W.region (L.m (V := fun x17 => .int .i64 x17) h rfl (Y.addM rfl rfl) (fun x17 ex17 h => ?_))
      refine L.y rfl (Y.move rfl) ?_
      exact L.nil (E.againJ ⟨x17, rfl, rfl, by rw [hg4]; exact h⟩ (Nat.lt_succ_self _) ⟨rfl, rfl, rfl, rfl, trivial⟩ (fun _ hw => hw))
    ·
     refine L.nil (E.thenN (W.seq (W.condF rfl ?_)))
     exact W.exit (E.thenX (E.KLX (E.blockX (E.joinJ ⟨rfl, rfl, h⟩ ⟨rfl, trivial⟩ (fun _ hw => hw)))))
   ·
    rintro _ _ ⟨rfl, rfl, h⟩
    rw [m11_order_Check_K2] at h
    refine W.seqJ (fun gs D => gs = [] ∧ D = Cls w [] [.os []] ∧ m11_order_Check_K3 = some r) ?_ ?_
    ·
     refine W.seq (W.region (L.y rfl (Y.fieldP fd27_1 rfl) ?_))
     refine L.y rfl (Y.loadP (i := 0) ag25 rfl rfl rfl) ?_
     refine L.y rfl (Y.lenMZ (row := svRow) (vs := q0_2) (l := a0.Versions) Try.underlying25 rfl (fun w' hw => (hA0_2.up.clsP hK hw rfl))) ?_
     refine L.y rfl (Y.move rfl) ?_
     refine L.nil (E.thenN (W.block (W.loopJ (fun m gs D => ∃ (gx1 : Int), gs = [(1, pt b1 0), (96, u0_2), (97, .int .i64 (a0.Versions.length : Int)), (98, .int .i64 gx1)] ∧ D = Cls w [] [.obj b1 [u0_0, u0_2] 27, .os []] ∧ m11_order_Check_L1 a0 m gx1 = some r) ⟨0, rfl, rfl, h⟩ ⟨rfl, rfl, rfl, rfl, trivial⟩ (fun _ hw => hw) ?_)))
     rintro m _ _ ⟨gx1, rfl, rfl, h⟩
     rcases m with _ | m
     · rw [m11_order_Check_L1] at h; cases h
     rw [m11_order_Check_L1] at h
     generalize hg1 : m11_order_Check_L1 a0 m = go1 at h
     rw [m11_order_Check_L1B] at h
     refine W.seq (W.region (L.ite h rfl (Y.lss rfl rfl) (fun c2 h => ?_) (fun c2 h => ?_)))
     ·
      refine L.nil (E.thenN (W.seq (W.condT rfl ?_)))
      refine W.skip (E.thenN (W.seqJ (fun gs D => gs = [(1, pt b1 0), (96, u0_2), (97, .int .i64 (a0.Versions.length : Int)), (98, .int .i64 gx1)] ∧ D = Cls w [] [.obj b1 [u0_0, u0_2] 27, .os []] ∧ m11_order_Check_K4 gx1 go1 = some r) ?_ ?_))
      ·
       refine W.block (W.seq (W.region (L.m (V := fun _ => el u0_2 (gx1.toNat * 1)) h rfl (Y.indexMZ (row := svRow) (vs := q0_2) (l := a0.Versions) Try.underlying25 sz34 rfl rfl (fun w' hw => (hA0_2.up.clsP hK hw rfl))) (fun x4 ex4 h => ?_))))
       refine L.y rfl (Y.loadE1 (u := gv (q0_2 gx1.toNat) 0) ag34 rfl (fun w' hw => (hA0_2.up.clsP hK hw rfl)) (zr_idx (vs := q0_2) ex4)) ?_
       refine L.y rfl (Y.assign rfl) ?_
       refine L.nil (E.thenN (W.seq (W.region (L.y rfl (Y.move rfl) ?_))))
       refine L.y rfl (Y.lenM (g := I) (l := x4) Try.underlying34 rfl (fun w' hw => (((FzA.at (sds := (svSd 3 1 I)) (vs := q0_2) (j := 0) (nl := 1) hD0_2 (fun _ _ => rfl) ex4 rfl).up).clsP hK hw rfl))) ?_
       refine L.y rfl (Y.move rfl) ?_
       refine L.nil (E.thenN (W.block (W.loopJ (fun m gs D => ∃ (gx2 : Int), gs = [(1, pt b1 0), (8, gv (q0_2 gx1.toNat) 0), (96, u0_2), (97, .int .i64 (a0.Versions.length : Int)), (98, .int .i64 gx1), (102, gv (q0_2 gx1.toNat) 0), (103, .int .i64 (x4.length : Int)), (104, .int .i64 gx2)] ∧ D = Cls w [] [.obj b1 [u0_0, u0_2] 27, .os []] ∧ m11_order_Check_L2 x4 a0 gx1 go1 m gx2 = some r) ⟨0, rfl, rfl, h⟩ ⟨rfl, rfl, rfl, rfl, rfl, rfl, rfl, rfl, trivial⟩ (fun _ hw => hw) ?_)))
       rintro m _ _ ⟨gx2, rfl, rfl, h⟩
       rcases m with _ | m
       · rw [m11_order_Check_L2] at h; cases h
       rw [m11_order_Check_L2] at h
       generalize hg2 : m11_order_Check_L2 x4 a0 gx1 go1 m = go2 at h
       rw [m11_order_Check_L2B] at h
       refine W.seq (W.region (L.ite h rfl (Y.lss rfl rfl) (fun c5 h => ?_) (fun c5 h => ?_)))
       ·
        refine L.nil (E.thenN (W.seq (W.condT rfl ?_)))
        refine W.skip (E.thenN (W.seq (W.block (W.seq (W.region (L.y rfl (Y.move rfl) ?_))))))
        refine L.m (V := fun _ => el (gv (q0_2 gx1.toNat) 0) (gx2.toNat * 1)) h rfl (Y.indexM (g := I) (l := x4) Try.underlying34 sz3 rfl rfl (fun w' hw => (((FzA.at (sds := (svSd 3 1 I)) (vs := q0_2) (j := 0) (nl := 1) hD0_2 (fun _ _ => rfl) ex4 rfl).up).clsP hK hw rfl))) (fun x6 ex6 h => ?_)
        refine L.y rfl (Y.loadE1 (u := .int .i64 x6) ag3 rfl (fun w' hw => (((FzA.at (sds := (svSd 3 1 I)) (vs := q0_2) (j := 0) (nl := 1) hD0_2 (fun _ _ => rfl) ex4 rfl).up).clsP hK hw rfl)) (idx_map ex6)) ?_
        refine L.alloc rfl ze3 ?_
        intro b7
        refine L.y rfl (Y.assign rfl) ?_
        refine L.store (i := 0) (vs := [.int .i64 x6]) sz3 rfl rfl rfl rfl (by simp [Value.oneCell', Value.cells, st, pt, el]) rfl (Nat.le_of_ble_eq_true rfl) ?_
        refine L.nil (E.thenN (W.seq (W.drawn2 (k := 12) (stC [] [] (Cls w [] [.obj b7 [.int .i64 x6] 3, .obj b1 [u0_0, u0_2] 27, .os []])) rfl mixed (fun _ hw => hw.drew) (Sc.atD (fun _ hw => hw)) ?_)))
        refine V2.y (i := 0) (Nx2.of (Z := Cls w [] [.obj b7 [.int .i64 x6] 3, .obj b1 [u0_0, u0_2] 27, .os []]) [] (by kernel_rfl) rfl (Zc.fin (fun _ hw => hw))) rfl rfl rfl (Y.move rfl) ?_
        refine V2.y (i := 1) (Nx2.of (Z := Cls w [] [.obj b7 [.int .i64 x6] 3, .obj b1 [u0_0, u0_2] 27, .os []]) [] (by kernel_rfl) rfl (Zc.fin (fun _ hw => hw))) rfl rfl rfl (Y.move rfl) ?_
        refine V2.m (i := 2) (V' := fun _ => cutv (gv (q0_2 gx1.toNat) 0) gx2.toNat) h (Nx2.of (Z := Cls w [] [.obj b7 [.int .i64 x6] 3, .obj b1 [u0_0, u0_2] 27, .os []]) [] (by kernel_rfl) rfl (Zc.fin (fun _ hw => hw))) rfl rfl rfl (Y.cutM (g := I) Try.underlying34 sz3 rfl rfl (fun w' hw => (((FzA.at (sds := (svSd 3 1 I)) (vs := q0_2) (j := 0) (nl := 1) hD0_2 (fun _ _ => rfl) ex4 rfl).up).clsP hK hw rfl))) (fun l8 el8 h => ?_)
        refine V2.y (i := 3) (Nx2.of (Z := Cls w [] [.obj b7 [.int .i64 x6] 3, .obj b1 [u0_0, u0_2] 27, .os []]) [] (by kernel_rfl) rfl (Zc.fin (fun _ hw => hw))) rfl rfl rfl (Y.loadP (i := 0) ag3 rfl rfl rfl) ?_
        refine V2.eff (i := 4) (by kernel_rfl) rfl ?_
        obtain ⟨b9, e10, h⟩ := bind1S h
        refine L.y rfl (Y.does en7 rfl (fun w' hw => (w7_slices_Contains_int l8 x6 (cutv (gv (q0_2 gx1.toNat) 0) gx2.toNat) w' _ e10 ((((FzA.at (sds := (svSd 3 1 I)) (vs := q0_2) (j := 0) (nl := 1) hD0_2 (fun _ _ => rfl) ex4 rfl).cutM el8).up).clsP hK hw rfl)).mono (fun _ _ h => h.1))) ?_
        rcases b9 with _ | _
        ·
         replace h := iteF h
         refine L.nil (E.toV2 (stC [] [] (Cls w [] [.obj b7 [.int .i64 x6] 3, .obj b1 [u0_0, u0_2] 27, .os []])) 4 (by kernel_rfl) (Sc.stayD (fun _ hw => hw)) (Sc.atD (fun _ hw => hw)) ?_)
         refine V2.y (i := 5) (Nx2.of (Z := Cls w [] [.obj b7 [.int .i64 x6] 3, .obj b1 [u0_0, u0_2] 27, .os []]) [] (by kernel_rfl) rfl (Zc.fin (fun _ hw => hw))) rfl rfl rfl (Y.move rfl) ?_
         refine V2.y (i := 6) (Nx2.of (Z := Cls w [] [.obj b7 [.int .i64 x6] 3, .obj b1 [u0_0, u0_2] 27, .os []]) [] (by kernel_rfl) rfl (Zc.fin (fun _ hw => hw))) rfl rfl rfl (Y.fieldP fd27_0 rfl) ?_
         refine V2.y (i := 7) (Nx2.of (Z := Cls w [] [.obj b7 [.int .i64 x6] 3, .obj b1 [u0_0, u0_2] 27, .os []]) [] (by kernel_rfl) rfl (Zc.fin (fun _ hw => hw))) rfl rfl rfl (Y.loadP (i := 1) ag24 rfl rfl rfl) ?_
         refine V2.y (i := 8) (Nx2.of (Z := Cls w [] [.obj b7 [.int .i64 x6] 3, .obj b1 [u0_0, u0_2] 27, .os []]) [] (by kernel_rfl) rfl (Zc.fin (fun _ hw => hw))) rfl rfl rfl (Y.func rfl) ?_
         refine V2.eff (i := 9) (by kernel_rfl) rfl ?_
         refine L.take rfl (L.callJ (fun v D => ∃ (gb3 : Bool), v = .bool gb3 ∧ D = Cls w [] [.obj b7 [.int .i64 x6] 3, .obj b1 [u0_0, u0_2] 27, .os []] ∧ m11_order_Check_K5 gx2 go2 gb3 = some r) rfl en24 rfl Try.func24 rfl rfl rfl ?_ ?_)
         ·
          refine W.seq (W.region (L.y rfl (Y.assign rfl) ?_))
          refine L.nil (E.thenN (W.seq (W.region (L.y rfl (Y.move rfl) ?_))))
          refine L.y rfl (Y.move rfl) ?_
          refine L.callJ (fun v D => ∃ (gx4 : Int), v = .int .i64 gx4 ∧ D = Cls w [] [.obj b7 [.int .i64 x6] 3, .obj b1 [u0_0, u0_2] 27, .os []] ∧ m11_order_Check_K6 gx2 go2 gx4 = some r) rfl en41 rfl Try.func41 rfl rfl rfl ?_ ?_
          ·
           refine W.seq (W.region (L.y rfl (Y.assign rfl) ?_))
           refine L.nil (E.thenN (W.seqJ (fun gs D => gs = [] ∧ D = Cls w [] [.obj b7 [.int .i64 x6] 3, .obj b1 [u0_0, u0_2] 27, .os []] ∧ m11_order_Check_K7 gx2 go2 = some r) ?_ ?_))
           ·
            refine W.seq (W.region (L.y rfl (Y.move rfl) ?_))
            refine L.y rfl (Y.lenMZ (row := TTale.rowv) (vs := q0_0) (l := a0.Tales) Try.underlying24 rfl (fun w' hw => (hA0_0.up.clsP hK hw rfl))) ?_
            refine L.y rfl (Y.move rfl) ?_
            refine L.nil (E.thenN (W.block (W.loopJ (fun m gs D => ∃ (gx5 : Int), gs = [(0, u0_0), (1, .func (.func 25) #[] #[pt b7 0]), (7, .int .i64 (a0.Tales.length : Int)), (8, .int .i64 gx5)] ∧ D = Cls w [] [.obj b7 [.int .i64 x6] 3, .obj b1 [u0_0, u0_2] 27, .os []] ∧ m11_order_Check_L3 a0 x6 gx2 go2 m gx5 = some r) ⟨0, rfl, rfl, h⟩ ⟨rfl, rfl, rfl, rfl, trivial⟩ (fun _ hw => hw) ?_)))
            rintro m _ _ ⟨gx5, rfl, rfl, h⟩
            rcases m with _ | m
            · rw [m11_order_Check_L3] at h; cases h
            rw [m11_order_Check_L3] at h
            generalize hg3 : m11_order_Check_L3 a0 x6 gx2 go2 m = go3 at h
            rw [m11_order_Check_L3B] at h
            refine W.seq (W.region (L.ite h rfl (Y.lss rfl rfl) (fun c12 h => ?_) (fun c12 h => ?_)))
            ·
             refine L.nil (E.thenN (W.seq (W.condT rfl ?_)))
             refine W.skip (E.thenN (W.seq (W.block (W.seq (W.region (L.y rfl (Y.move rfl) ?_))))))
             refine L.y rfl (Y.assign rfl) ?_
             refine L.nil (E.thenN (W.seq (W.region (L.y rfl (Y.move rfl) ?_))))
             refine L.y rfl (Y.move rfl) ?_
             refine L.y rfl (Y.move rfl) ?_
             refine L.m (V := fun _ => el u0_0 (gx5.toNat * 2)) h rfl (Y.indexMZ (row := TTale.rowv) (vs := q0_0) (l := a0.Tales) Try.underlying24 sz41 rfl rfl (fun w' hw => (hA0_0.up.clsP hK hw rfl))) (fun x13 ex13 h => ?_)
             refine L.y rfl (Y.loadEN (r := [.int .i64 x13.Tx, gv (q0_0 gx5.toNat) 0]) ag41 sz41 rfl (fun w' hw => (hA0_0.up.clsP hK hw rfl)) (zr_idx (vs := q0_0) ex13) rfl) ?_
             refine L.callVJ (fun v D => v = .bool (decide (x13.Tx = x6)) ∧ D = Cls w [] [.obj b7 [.int .i64 x6] 3, .obj b1 [u0_0, u0_2] 27, .os []] ∧ m11_order_Check_K8 x13 x6 gx2 go2 gx5 go3 = some r) rfl en25 rfl rfl Try.func25 rfl rfl rfl ?_ ?_
             ·
              refine W.seq (W.region (L.box rfl rfl ?_))
              intro b15
              refine L.y rfl (Y.assign rfl) ?_
              refine L.nil (E.thenN (W.seq (W.region (L.y rfl (Y.fieldP fd41_0 rfl) ?_))))
              refine L.y rfl (Y.loadP (i := 0) ag3 rfl rfl rfl) ?_
              refine L.y rfl (Y.loadP (i := 1) ag3 rfl rfl rfl) ?_
              refine L.y rfl (Y.eql rfl rfl) ?_
              refine L.y rfl (Y.assign rfl) ?_
              refine L.nil (E.thenN (W.ret (E.ret1 rfl rfl (fun w1 hw => ?_))))
              exact ⟨_, _, rfl, ⟨rfl, rfl, h⟩, hw.sel [1, 2, 3] (by decide) rfl⟩
             ·
              rintro _ _ ⟨rfl, rfl, h⟩
              rw [m11_order_Check_K8] at h
              refine L.nil (E.thenN (W.caseB (q := 16) h rfl (fun h => ?_) (fun h => ?_)))
              ·
               refine W.condT rfl ?_
               refine W.seq (W.region (L.y rfl (Y.move rfl) ?_))
               refine L.y rfl (Y.assign rfl) ?_
               refine L.nil (E.thenN (W.ret (E.blockR (E.thenR (E.KLR (E.blockR (E.KSR (E.ret1 rfl rfl (fun w1 hw => ?_)))))))))
               exact ⟨_, _, rfl, ⟨gx5, rfl, rfl, h⟩, hw⟩
              ·
               refine W.condF rfl ?_
               refine W.skip (E.blockN (E.thenN (W.region (L.m (V := fun x14 => .int .i64 x14) h rfl (Y.addM rfl rfl) (fun x14 ex14 h => ?_)))))
               refine L.y rfl (Y.move rfl) ?_
               exact L.nil (E.againJ ⟨x14, rfl, rfl, by rw [hg3]; exact h⟩ (Nat.lt_succ_self _) ⟨rfl, rfl, rfl, rfl, trivial⟩ (fun _ hw => hw))
            ·
             refine L.nil (E.thenN (W.seq (W.condF rfl ?_)))
             exact W.exit (E.thenX (E.KLX (E.blockX (E.joinJ ⟨rfl, rfl, h⟩ trivial (fun _ hw => hw)))))
           ·
            rintro _ _ ⟨rfl, rfl, h⟩
            rw [m11_order_Check_K7] at h
            refine W.seq (W.region (L.y rfl (Y.assign rfl) ?_))
            refine L.nil (E.thenN (W.ret (E.ret1 rfl rfl (fun w1 hw => ?_))))
            exact ⟨_, _, rfl, ⟨(-1), rfl, rfl, h⟩, hw⟩
          ·
           rintro _ _ ⟨gx4, rfl, rfl, h⟩
           rw [m11_order_Check_K6] at h
           refine L.y rfl (Y.geq rfl rfl) ?_
           refine L.y rfl (Y.assign rfl) ?_
           refine L.nil (E.thenN (W.ret (E.ret1 rfl rfl (fun w1 hw => ?_))))
           exact ⟨_, _, rfl, ⟨decide (0 ≤ gx4), rfl, rfl, h⟩, hw⟩
         ·
          rintro _ _ ⟨gb3, rfl, rfl, h⟩
          rw [m11_order_Check_K5] at h
          rcases gb3 with _ | _
          ·
           replace h := iteF h
           refine L.nil (E.toV2 (stC [] [] (Cls w [] [.obj b7 [.int .i64 x6] 3, .obj b1 [u0_0, u0_2] 27, .os []])) 9 (by kernel_rfl) (Sc.stayD (fun _ hw => hw)) (Sc.atD (fun _ hw => hw)) ?_)
           refine V2.y (i := 10) (Nx2.of (Z := Cls w [] [.obj b7 [.int .i64 x6] 3, .obj b1 [u0_0, u0_2] 27, .os []]) [] (by kernel_rfl) rfl (Zc.fin (fun _ hw => hw))) rfl rfl rfl (Y.not rfl) ?_
           refine V2.y (i := 11) (Nx2.of (Z := Cls w [] [.obj b7 [.int .i64 x6] 3, .obj b1 [u0_0, u0_2] 27, .os []]) [] (by kernel_rfl) rfl (Zc.fin (fun _ hw => hw))) rfl rfl rfl (Y.pickF rfl rfl) ?_
           refine V2.done (by kernel_rfl) ?_
           refine E.thenN (W.condT rfl ?_)
           refine W.seq (W.region (L.y rfl (Y.assign rfl) ?_))
           refine L.nil (E.thenN (W.ret (E.blockR (E.thenR (E.KLR (E.blockR (E.blockR (E.KSR (E.KLR (E.blockR (E.KSR (E.ret1 rfl rfl (fun w1 hw => ?_)))))))))))))
           obtain rfl := Option.some.inj h
           exact ⟨_, _, rfl, ⟨rfl, rfl⟩, hw.sel [] (by decide) rfl⟩
          ·
           replace h := iteT h
           refine L.nil (E.toV2 (stC [] [] (Cls w [] [.obj b7 [.int .i64 x6] 3, .obj b1 [u0_0, u0_2] 27, .os []])) 9 (by kernel_rfl) (Sc.stayD (fun _ hw => hw)) (Sc.atD (fun _ hw => hw)) ?_)
           refine V2.y (i := 10) (Nx2.of (Z := Cls w [] [.obj b7 [.int .i64 x6] 3, .obj b1 [u0_0, u0_2] 27, .os []]) [] (by kernel_rfl) rfl (Zc.fin (fun _ hw => hw))) rfl rfl rfl (Y.not rfl) ?_
           refine V2.y (i := 11) (Nx2.of (Z := Cls w [] [.obj b7 [.int .i64 x6] 3, .obj b1 [u0_0, u0_2] 27, .os []]) [] (by kernel_rfl) rfl (Zc.fin (fun _ hw => hw))) rfl rfl rfl (Y.pickF rfl rfl) ?_
           refine V2.done (by kernel_rfl) ?_
           refine E.thenN (W.condF rfl ?_)
           refine W.skip (E.blockN (E.thenN (W.region (L.m (V := fun x11 => .int .i64 x11) h rfl (Y.addM rfl rfl) (fun x11 ex11 h => ?_)))))
           refine L.y rfl (Y.move rfl) ?_
           exact L.nil (E.againJ ⟨x11, rfl, rfl, by rw [hg2]; exact h⟩ (Nat.lt_succ_self _) ⟨rfl, rfl, rfl, rfl, rfl, rfl, rfl, rfl, trivial⟩ (fun _ hw => hw.sel [1, 2] (by decide) rfl))
        ·
         replace h := iteT h
         refine L.nil (E.toV2 (stC [] [] (Cls w [] [.obj b7 [.int .i64 x6] 3, .obj b1 [u0_0, u0_2] 27, .os []])) 4 (by kernel_rfl) (Sc.stayD (fun _ hw => hw)) (Sc.atD (fun _ hw => hw)) ?_)
         refine V2.y (i := 5) (Nx2.of (Z := Cls w [] [.obj b7 [.int .i64 x6] 3, .obj b1 [u0_0, u0_2] 27, .os []]) [] (by kernel_rfl) rfl (Zc.fin (fun _ hw => hw))) rfl rfl rfl (Y.move rfl) ?_
         refine V2.pass (i := 6) (Nx2.of (Z := Cls w [] [.obj b7 [.int .i64 x6] 3, .obj b1 [u0_0, u0_2] 27, .os []]) [] (by kernel_rfl) rfl (Zc.fin (fun _ hw => hw))) rfl rfl ?_
         refine V2.pass (i := 7) (Nx2.of (Z := Cls w [] [.obj b7 [.int .i64 x6] 3, .obj b1 [u0_0, u0_2] 27, .os []]) [] (by kernel_rfl) rfl (Zc.fin (fun _ hw => hw))) rfl rfl ?_
         refine V2.pass (i := 8) (Nx2.of (Z := Cls w [] [.obj b7 [.int .i64 x6] 3, .obj b1 [u0_0, u0_2] 27, .os []]) [] (by kernel_rfl) rfl (Zc.fin (fun _ hw => hw))) rfl rfl ?_
         refine V2.pass (i := 9) (Nx2.of (Z := Cls w [] [.obj b7 [.int .i64 x6] 3, .obj b1 [u0_0, u0_2] 27, .os []]) [] (by kernel_rfl) rfl (Zc.fin (fun _ hw => hw))) rfl rfl ?_
         refine V2.pass (i := 10) (Nx2.of (Z := Cls w [] [.obj b7 [.int .i64 x6] 3, .obj b1 [u0_0, u0_2] 27, .os []]) [] (by kernel_rfl) rfl (Zc.fin (fun _ hw => hw))) rfl rfl ?_
         refine V2.y (i := 11) (Nx2.of (Z := Cls w [] [.obj b7 [.int .i64 x6] 3, .obj b1 [u0_0, u0_2] 27, .os []]) [] (by kernel_rfl) rfl (Zc.fin (fun _ hw => hw))) rfl rfl rfl (Y.pickT rfl rfl) ?_
         refine V2.done (by kernel_rfl) ?_
         refine E.thenN (W.condT rfl ?_)
         refine W.seq (W.region (L.y rfl (Y.assign rfl) ?_))
         refine L.nil (E.thenN (W.ret (E.blockR (E.thenR (E.KLR (E.blockR (E.blockR (E.KSR (E.KLR (E.blockR (E.KSR (E.ret1 rfl rfl (fun w1 hw => ?_)))))))))))))
         obtain rfl := Option.some.inj h
         exact ⟨_, _, rfl, ⟨rfl, rfl⟩, hw.sel [] (by decide) rfl⟩
       ·
        refine L.nil (E.thenN (W.seq (W.condF rfl ?_)))
        exact W.exit (E.thenX (E.KLX (E.blockX (E.blockN (E.joinJ ⟨rfl, rfl, h⟩ ⟨rfl, rfl, rfl, rfl, trivial⟩ (fun _ hw => hw))))))
      ·
       rintro _ _ ⟨rfl, rfl, h⟩
       rw [m11_order_Check_K4] at h
       refine W.region (L.m (V := fun x3 => .int .i64 x3) h rfl (Y.addM rfl rfl) (fun x3 ex3 h => ?_))
       refine L.y rfl (Y.move rfl) ?_
       exact L.nil (E.againJ ⟨x3, rfl, rfl, by rw [hg1]; exact h⟩ (Nat.lt_succ_self _) ⟨rfl, rfl, rfl, rfl, trivial⟩ (fun _ hw => hw))
     ·
      refine L.nil (E.thenN (W.seq (W.condF rfl ?_)))
      exact W.exit (E.thenX (E.KLX (E.blockX (E.joinJ ⟨rfl, rfl, h⟩ trivial (fun _ hw => hw.sel [1] (by decide) rfl)))))
    ·
     rintro _ _ ⟨rfl, rfl, h⟩
     rw [m11_order_Check_K3] at h
     refine W.seq (W.region (L.y rfl (Y.assign rfl) ?_))
     refine L.nil (E.thenN (W.ret (E.ret1 rfl rfl (fun w1 hw => ?_))))
     obtain rfl := Option.some.inj h
     exact ⟨_, _, rfl, ⟨rfl, rfl⟩, hw.sel [] (by decide) rfl⟩
set_option maxRecDepth 100000 in
set_option maxHeartbeats 8000000 in
theorem w4_order_Of (a0 : (List TOp)) (a1 : (List TDid)) (u0 : Value) (u1 : Value) (K : World → Prop) (w : World) (hK : StbF K w []) (r : (TStory × Int)) (h : m4_order_Of a0 a1 = some r) (hA0 : Fz K [] u0 3 (a0.map TOp.row)) (hA1 : Fz K [] u1 2 (a1.map TDid.row)) : Does Try.prog 4 [u0, u1] w fun u m => ∃ c, m = [.os c] ∧ ∃ v0 q0 v1 q1, u = .tuple #[.agg #[v0, v1], .int .i64 r.2] ∧ Fz K c v0 2 (zr TTale.rowv q0 r.1.Tales) ∧ FzA K c (zs TTale.sds q0 r.1.Tales) ∧ Fz K c v1 1 (zr svRow q1 r.1.Versions) ∧ FzA K c (zs (svSd 3 1 I) q1 r.1.Versions) := by
  rw [m4_order_Of] at h
  refine body (n := 181) Try.func4 rfl rfl rfl (Cls.reflF w) ?_
  refine W.seq (W.region (L.alloc rfl ze27 ?_))
  intro b1
  refine L.y rfl (Y.assign rfl) ?_
  refine L.nil (E.thenN (W.seqJ (fun gs D => gs = [(0, u0), (1, u1), (4, pt b1 0)] ∧ D = Cls w [] [.obj b1 [.slice none 0 0, .slice none 0 0] 27, .os []] ∧ m4_order_Of_K1 a0 a1 = some r) ?_ ?_))
  ·
   refine W.seq (W.region (L.y rfl (Y.move rfl) ?_))
   refine L.y rfl (Y.lenM (g := TOp.row) (l := a0) Try.underlying22 rfl (fun w' hw => (hA0.up.clsP hK hw rfl))) ?_
   refine L.y rfl (Y.move rfl) ?_
   refine L.y rfl (Y.lenM (g := TDid.row) (l := a1) Try.underlying23 rfl (fun w' hw => (hA1.up.clsP hK hw rfl))) ?_
   refine L.ite h rfl (Y.neq rfl rfl) (fun c152 h => ?_) (fun c152 h => ?_)
   ·
    refine L.y rfl (Y.move rfl) ?_
    refine L.pass rfl rfl (by nofun) ?_
    refine L.pass rfl rfl (by nofun) ?_
    refine L.pass rfl rfl (by nofun) ?_
    refine L.y rfl (Y.pickT rfl rfl) ?_
    refine L.nil (E.thenN (W.condT rfl ?_))
    refine W.seq (W.region (L.y rfl (Y.build (cells := #[.slice none 0 0, .slice none 0 0]) rfl (by kernel_rfl)) ?_))
    refine L.store (i := 0) (vs := [.slice none 0 0, .slice none 0 0]) sz27 rfl rfl rfl rfl (by simp [Value.oneCell', Value.cells, st, pt, el]) rfl (Nat.le_of_ble_eq_true rfl) ?_
    refine L.y rfl (Y.assign rfl) ?_
    refine L.nil (E.thenN (W.ret (E.KSR (E.retR2 rfl (Rv.cellW (i := 0) ag27 sz27 rfl rfl rfl) (Rv.tmp rfl) (fun w1 hw => ?_)))))
    obtain rfl := Option.some.inj h
    exact ⟨_, _, rfl, ⟨[], rfl, (.slice none 0 0), (fun _ => []), (.slice none 0 0), (fun _ => []), rfl, Fz.nil, FzA.nil, Fz.nil, FzA.nil⟩, hw.sel [1] (by decide) rfl⟩
   ·
    refine L.y rfl (Y.move rfl) ?_
    refine L.take rfl (L.y rfl (Y.move rfl) ?_)
    refine L.take rfl (L.y rfl (Y.lenM (g := TOp.row) (l := a0) Try.underlying22 rfl (fun w' hw => (hA0.up.clsP hK hw rfl))) ?_)
    refine L.take rfl (L.ite h rfl (Y.gtr rfl rfl) (fun c153 h => ?_) (fun c153 h => ?_))
    ·
     refine L.y rfl (Y.pickF rfl rfl) ?_
     refine L.nil (E.thenN (W.condT rfl ?_))
     refine W.seq (W.region (L.y rfl (Y.build (cells := #[.slice none 0 0, .slice none 0 0]) rfl (by kernel_rfl)) ?_))
     refine L.store (i := 0) (vs := [.slice none 0 0, .slice none 0 0]) sz27 rfl rfl rfl rfl (by simp [Value.oneCell', Value.cells, st, pt, el]) rfl (Nat.le_of_ble_eq_true rfl) ?_
     refine L.y rfl (Y.assign rfl) ?_
     refine L.nil (E.thenN (W.ret (E.KSR (E.retR2 rfl (Rv.cellW (i := 0) ag27 sz27 rfl rfl rfl) (Rv.tmp rfl) (fun w1 hw => ?_)))))
     obtain rfl := Option.some.inj h
     exact ⟨_, _, rfl, ⟨[], rfl, (.slice none 0 0), (fun _ => []), (.slice none 0 0), (fun _ => []), rfl, Fz.nil, FzA.nil, Fz.nil, FzA.nil⟩, hw.sel [1] (by decide) rfl⟩
    ·
     refine L.y rfl (Y.pickF rfl rfl) ?_
     refine L.nil (E.thenN (W.condF rfl ?_))
     exact W.skip (E.joinJ ⟨rfl, rfl, h⟩ ⟨rfl, rfl, rfl, trivial⟩ (fun _ hw => hw))
  ·
   rintro _ _ ⟨rfl, rfl, h⟩
   rw [m4_order_Of_K1] at h
   refine W.seq (W.region (L.makeMap rfl ?_))
   intro b2
   refine L.tsNew TGot.row (fun _ => .slice none 0 0) (fun _ => 0) 45 41 2 ?_
   refine L.to (D := Cls w [] [.any (tsRes [] (fun _ => .slice none 0 0) 45 2 (tsRows TGot.row []) (zs TTale.sds (fun _ => []) [])), .os (tsObs (fun _ => 0) (fun _ => .slice none 0 0) 41 []), .mp b2 (mrow (VT (fun _ => 0)) (tk [])), .obj b1 [.slice none 0 0, .slice none 0 0] 27, .os []]) (fun _ hw => hw) ?_
   refine L.y rfl (Y.assign rfl) ?_
   refine L.nil (E.thenN (W.seq (W.region (L.alloc rfl ze35 ?_))))
   intro b3
   refine L.ssNew (row := svRow) (sds := (svSd 3 1 I)) (vs := (fun _ => [nilV])) (xs := (List.replicate 12 ([] : (List Int)))) rfl (zs_repl (gall1 rfl rfl gall0) _) ?_
   refine L.nil (E.thenN (W.seq (W.region ?_)))
   obtain ⟨l4, el4, h⟩ := bind1S h
   refine L.makeZ (row := svRow) (sds := (svSd 3 1 I)) (nv := [nilV]) (z0 := ([] : (List Int))) el4 rfl Try.underlying25 eL34 ze34 rfl rfl rfl (gall1 rfl rfl gall0) ?_
   intro b5
   refine L.y rfl (Y.buildC (cells := #[.slice none 0 0, (sv b5 (20 : Int).toNat)]) rfl (fun w hw => by rcases ((As.at_ (hw.get (i := 0) rfl))).shape with ⟨h0, _⟩ | ⟨_, _, h0, _, _⟩ <;> simp only [h0] <;> kernel_rfl)) ?_
   refine L.alloc rfl ze27 ?_
   intro b6
   refine L.storeC (i := 0) sz27 rfl rfl rfl rfl (fun w hw => (all1 rfl (all1 (As.at_ (hw.get (i := 1) rfl)).one all0))) rfl (Nat.le_of_ble_eq_true rfl) ?_
   refine L.nil (E.thenN (W.seqJ (fun gs D => ∃ (gv1 : Value) (gl2 : (List TTale)) (gq3 : Nat → List Value) (gl4 : (List (List Int))) (gq5 : Nat → List Value) (gl6 : (List Int)) (gq7 : Int → Nat) (gq8 : Int → Value) (gl9 : (List (Int × (List TGot)))) (gq10 : List Nat), gs = [(4, pt b1 0), (8, pt b6 0)] ∧ D = Cls w [] [.obj b6 [gv1, (sv b5 (20 : Int).toNat)] 27, .mp b2 (mrow (VT gq7) (tk gl6)), .os (tsObs gq7 gq8 41 gl6), .any (tsRes gq10 gq8 45 2 (tsRows TGot.row gl9) (zs TTale.sds gq3 gl2)), .obj b1 [.slice none 0 0, .slice none 0 0] 27, .sl gv1 41 2 (zr TTale.rowv gq3 gl2), .sl (sv b5 (20 : Int).toNat) 34 1 (zr svRow gq5 gl4), .ss (zs (svSd 3 1 I) gq5 gl4), .os []] ∧ m4_order_Of_K2 gl2 gl4 gl6 gl9 = some r) ?_ ?_))
   ·
    refine W.seq (W.region (L.y rfl (Y.move rfl) ?_))
    refine L.y rfl (Y.lenM (g := TOp.row) (l := a0) Try.underlying22 rfl (fun w' hw => (hA0.up.clsP hK hw rfl))) ?_
    refine L.y rfl (Y.move rfl) ?_
    refine L.nil (E.thenN (W.block (W.nilSl 41 2 ?_)))
    refine W.loopJ (fun m gs D => ∃ (gx11 : Int) (gv12 : Value) (gl13 : (List TTale)) (gq14 : Nat → List Value) (gl15 : (List (List Int))) (gq16 : Nat → List Value) (gl17 : (List (List Int))) (gq18 : Nat → List Value) (gl19 : (List Int)) (gq20 : Int → Nat) (gq21 : Int → Value) (gl22 : (List (Int × (List TGot)))) (gq23 : List Nat), gs = [(1, u1), (4, pt b1 0), (6, .map (some b2)), (7, pt b3 0), (8, pt b6 0), (27, u0), (28, .int .i64 (a0.length : Int)), (29, .int .i64 gx11)] ∧ D = Cls w [] [.obj b6 [gv12, (sv b5 (20 : Int).toNat)] 27, .obj b3 (zr svRow gq18 gl17).flatten 35, .ss (zs (svSd 3 1 I) gq18 gl17), .mp b2 (mrow (VT gq20) (tk gl19)), .os (tsObs gq20 gq21 41 gl19), .any (tsRes gq23 gq21 45 2 (tsRows TGot.row gl22) (zs TTale.sds gq14 gl13)), .obj b1 [.slice none 0 0, .slice none 0 0] 27, .sl gv12 41 2 (zr TTale.rowv gq14 gl13), .sl (sv b5 (20 : Int).toNat) 34 1 (zr svRow gq16 gl15), .ss (zs (svSd 3 1 I) gq16 gl15), .os []] ∧ m4_order_Of_L1 a0 a1 m gx11 gl13 gl15 gl17 gl19 gl22 = some r) ⟨0, .slice none 0 0, [], (fun _ => []), l4, (fun _ => [nilV]), (List.replicate 12 ([] : (List Int))), (fun _ => [nilV]), [], (fun _ => 0), (fun _ => .slice none 0 0), [], [], rfl, rfl, h⟩ ⟨rfl, rfl, rfl, rfl, rfl, rfl, rfl, rfl, trivial⟩ (fun _ hw => hw.sel [1, 4, 5, 8, 7, 6, 9, 0, 2, 3, 10] (by decide) rfl) ?_
    rintro m _ _ ⟨gx11, gv12, gl13, gq14, gl15, gq16, gl17, gq18, gl19, gq20, gq21, gl22, gq23, rfl, rfl, h⟩
    rcases m with _ | m
    · rw [m4_order_Of_L1] at h; cases h
    rw [m4_order_Of_L1] at h
    generalize hg1 : m4_order_Of_L1 a0 a1 m = go1 at h
    rw [m4_order_Of_L1B] at h
    refine W.seq (W.region (L.ite h rfl (Y.lss rfl rfl) (fun c25 h => ?_) (fun c25 h => ?_)))
    ·
     refine L.nil (E.thenN (W.seq (W.condT rfl ?_)))
     refine W.skip (E.thenN (W.seqJ (fun gs D => ∃ (gv24 : Value) (gl25 : (List TTale)) (gq26 : Nat → List Value) (gl27 : (List (List Int))) (gq28 : Nat → List Value) (gl29 : (List (List Int))) (gq30 : Nat → List Value) (gl31 : (List Int)) (gq32 : Int → Nat) (gq33 : Int → Value) (gl34 : (List (Int × (List TGot)))) (gq35 : List Nat), gs = [(1, u1), (4, pt b1 0), (6, .map (some b2)), (7, pt b3 0), (8, pt b6 0), (27, u0), (28, .int .i64 (a0.length : Int)), (29, .int .i64 gx11)] ∧ D = Cls w [] [.obj b6 [gv24, (sv b5 (20 : Int).toNat)] 27, .obj b3 (zr svRow gq30 gl29).flatten 35, .ss (zs (svSd 3 1 I) gq30 gl29), .mp b2 (mrow (VT gq32) (tk gl31)), .os (tsObs gq32 gq33 41 gl31), .any (tsRes gq35 gq33 45 2 (tsRows TGot.row gl34) (zs TTale.sds gq26 gl25)), .obj b1 [.slice none 0 0, .slice none 0 0] 27, .sl gv24 41 2 (zr TTale.rowv gq26 gl25), .sl (sv b5 (20 : Int).toNat) 34 1 (zr svRow gq28 gl27), .ss (zs (svSd 3 1 I) gq28 gl27), .os []] ∧ m4_order_Of_K3 gx11 go1 gl25 gl27 gl29 gl31 gl34 = some r) ?_ ?_))
     ·
      refine W.block (W.seq (W.region (L.y rfl (Y.move rfl) ?_)))
      refine L.m (V := fun _ => el u0 (gx11.toNat * 3)) h rfl (Y.indexM (g := TOp.row) (l := a0) Try.underlying22 sz37 rfl rfl (fun w' hw => (hA0.up.clsP hK hw rfl))) (fun x27 ex27 h => ?_)
      refine L.y rfl (Y.loadEN (r := [.int .i64 x27.Tx, .int .i64 x27.Kind, .int .i64 x27.Item]) ag37 sz37 rfl (fun w' hw => (hA0.up.clsP hK hw rfl)) (idx_map ex27) rfl) ?_
      refine L.alloc rfl ze37 ?_
      intro b28
      refine L.y rfl (Y.assign rfl) ?_
      refine L.store (i := 0) (vs := [.int .i64 x27.Tx, .int .i64 x27.Kind, .int .i64 x27.Item]) sz37 rfl rfl rfl rfl (by simp [Value.oneCell', Value.cells, st, pt, el]) rfl (Nat.le_of_ble_eq_true rfl) ?_
      refine L.nil (E.thenN (W.seqJ (fun gs D => gs = [(1, u1), (4, pt b1 0), (6, .map (some b2)), (7, pt b3 0), (8, pt b6 0), (9, .int .i64 gx11), (10, pt b28 0), (27, u0), (28, .int .i64 (a0.length : Int)), (29, .int .i64 gx11)] ∧ D = Cls w [] [.obj b28 [.int .i64 x27.Tx, .int .i64 x27.Kind, .int .i64 x27.Item] 37, .obj b6 [gv12, (sv b5 (20 : Int).toNat)] 27, .obj b3 (zr svRow gq18 gl17).flatten 35, .ss (zs (svSd 3 1 I) gq18 gl17), .mp b2 (mrow (VT gq20) (tk gl19)), .os (tsObs gq20 gq21 41 gl19), .any (tsRes gq23 gq21 45 2 (tsRows TGot.row gl22) (zs TTale.sds gq14 gl13)), .obj b1 [.slice none 0 0, .slice none 0 0] 27, .sl gv12 41 2 (zr TTale.rowv gq14 gl13), .sl (sv b5 (20 : Int).toNat) 34 1 (zr svRow gq16 gl15), .ss (zs (svSd 3 1 I) gq16 gl15), .os []] ∧ m4_order_Of_K4 gl19 x27 gl22 a1 gx11 go1 gl13 gl15 gl17 = some r) ?_ ?_))
      ·
       refine W.seq (W.region (L.cutJ 8 (fun gs D => ∃ (gb50 : Bool), gs = [(1, u1), (4, pt b1 0), (6, .map (some b2)), (7, pt b3 0), (8, pt b6 0), (9, .int .i64 gx11), (10, pt b28 0), (27, u0), (28, .int .i64 (a0.length : Int)), (29, .int .i64 gx11), (41, .bool gb50)] ∧ D = Cls w [] [.obj b28 [.int .i64 x27.Tx, .int .i64 x27.Kind, .int .i64 x27.Item] 37, .obj b6 [gv12, (sv b5 (20 : Int).toNat)] 27, .obj b3 (zr svRow gq18 gl17).flatten 35, .ss (zs (svSd 3 1 I) gq18 gl17), .mp b2 (mrow (VT gq20) (tk gl19)), .os (tsObs gq20 gq21 41 gl19), .any (tsRes gq23 gq21 45 2 (tsRows TGot.row gl22) (zs TTale.sds gq14 gl13)), .obj b1 [.slice none 0 0, .slice none 0 0] 27, .sl gv12 41 2 (zr TTale.rowv gq14 gl13), .sl (sv b5 (20 : Int).toNat) 34 1 (zr svRow gq16 gl15), .ss (zs (svSd 3 1 I) gq16 gl15), .os []] ∧ m4_order_Of_K12 x27 gl19 gl22 a1 gx11 go1 gl13 gl15 gl17 gb50 = some r) ?_ ?_))
       ·
        refine L.y rfl (Y.fieldP fd37_0 rfl) ?_
        refine L.y rfl (Y.loadP (i := 0) ag3 rfl rfl rfl) ?_
        refine L.ite h rfl (Y.lss rfl rfl) (fun c150 h => ?_) (fun c150 h => ?_)
        ·
         refine L.y rfl (Y.move rfl) ?_
         refine L.pass rfl rfl (by nofun) ?_
         refine L.pass rfl rfl (by nofun) ?_
         refine L.pass rfl rfl (by nofun) ?_
         refine L.y rfl (Y.pickT rfl rfl) ?_
         exact L.nil (E.joinJ ⟨true, rfl, rfl, h⟩ ⟨rfl, rfl, rfl, rfl, rfl, rfl, rfl, rfl, rfl, rfl, rfl, trivial⟩ (fun _ hw => hw))
        ·
         refine L.y rfl (Y.move rfl) ?_
         refine L.take rfl (L.y rfl (Y.fieldP fd37_0 rfl) ?_)
         refine L.take rfl (L.y rfl (Y.loadP (i := 0) ag3 rfl rfl rfl) ?_)
         refine L.take rfl (L.ite h rfl (Y.geq rfl rfl) (fun c151 h => ?_) (fun c151 h => ?_))
         ·
          refine L.y rfl (Y.pickF rfl rfl) ?_
          exact L.nil (E.joinJ ⟨true, rfl, rfl, h⟩ ⟨rfl, rfl, rfl, rfl, rfl, rfl, rfl, rfl, rfl, rfl, rfl, trivial⟩ (fun _ hw => hw))
         ·
          refine L.y rfl (Y.pickF rfl rfl) ?_
          exact L.nil (E.joinJ ⟨false, rfl, rfl, h⟩ ⟨rfl, rfl, rfl, rfl, rfl, rfl, rfl, rfl, rfl, rfl, rfl, trivial⟩ (fun _ hw => hw))
       ·
        rintro _ _ ⟨gb50, rfl, rfl, h⟩
        rw [m4_order_Of_K12] at h
        rcases gb50 with _ | _
        ·
         replace h := iteF h
         refine L.y rfl (Y.move rfl) ?_
         refine L.take rfl (L.y rfl (Y.fieldP fd37_2 rfl) ?_)
         refine L.take rfl (L.y rfl (Y.loadP (i := 0) ag3 rfl rfl rfl) ?_)
         refine L.take rfl (L.ite h rfl (Y.lss rfl rfl) (fun c148 h => ?_) (fun c148 h => ?_))
         ·
          refine L.y rfl (Y.pickF rfl rfl) ?_
          refine L.y rfl (Y.move rfl) ?_
          refine L.pass rfl rfl (by nofun) ?_
          refine L.pass rfl rfl (by nofun) ?_
          refine L.pass rfl rfl (by nofun) ?_
          refine L.y rfl (Y.pickT rfl rfl) ?_
          refine L.nil (E.thenN (W.condT rfl ?_))
          refine W.seq (W.region (L.y rfl (Y.build (cells := #[.slice none 0 0, .slice none 0 0]) rfl (by kernel_rfl)) ?_))
          refine L.store (i := 7) (vs := [.slice none 0 0, .slice none 0 0]) sz27 rfl rfl rfl rfl (by simp [Value.oneCell', Value.cells, st, pt, el]) rfl (Nat.le_of_ble_eq_true rfl) ?_
          refine L.y rfl (Y.assign rfl) ?_
          refine L.nil (E.thenN (W.ret (E.KSR (E.blockR (E.KSR (E.KLR (E.blockR (E.KSR (E.retR2 rfl (Rv.cellW (i := 7) ag27 sz27 rfl rfl rfl) (Rv.tmp rfl) (fun w1 hw => ?_))))))))))
          obtain rfl := Option.some.inj h
          exact ⟨_, _, rfl, ⟨[], rfl, (.slice none 0 0), (fun _ => []), (.slice none 0 0), (fun _ => []), rfl, Fz.nil, FzA.nil, Fz.nil, FzA.nil⟩, hw.sel [11] (by decide) rfl⟩
         ·
          refine L.y rfl (Y.pickF rfl rfl) ?_
          refine L.y rfl (Y.move rfl) ?_
          refine L.take rfl (L.y rfl (Y.fieldP fd37_2 rfl) ?_)
          refine L.take rfl (L.y rfl (Y.loadP (i := 0) ag3 rfl rfl rfl) ?_)
          refine L.take rfl (L.ite h rfl (Y.geq rfl rfl) (fun c149 h => ?_) (fun c149 h => ?_))
          ·
           refine L.y rfl (Y.pickF rfl rfl) ?_
           refine L.nil (E.thenN (W.condT rfl ?_))
           refine W.seq (W.region (L.y rfl (Y.build (cells := #[.slice none 0 0, .slice none 0 0]) rfl (by kernel_rfl)) ?_))
           refine L.store (i := 7) (vs := [.slice none 0 0, .slice none 0 0]) sz27 rfl rfl rfl rfl (by simp [Value.oneCell', Value.cells, st, pt, el]) rfl (Nat.le_of_ble_eq_true rfl) ?_
           refine L.y rfl (Y.assign rfl) ?_
           refine L.nil (E.thenN (W.ret (E.KSR (E.blockR (E.KSR (E.KLR (E.blockR (E.KSR (E.retR2 rfl (Rv.cellW (i := 7) ag27 sz27 rfl rfl rfl) (Rv.tmp rfl) (fun w1 hw => ?_))))))))))
           obtain rfl := Option.some.inj h
           exact ⟨_, _, rfl, ⟨[], rfl, (.slice none 0 0), (fun _ => []), (.slice none 0 0), (fun _ => []), rfl, Fz.nil, FzA.nil, Fz.nil, FzA.nil⟩, hw.sel [11] (by decide) rfl⟩
          ·
           refine L.y rfl (Y.pickF rfl rfl) ?_
           refine L.nil (E.thenN (W.condF rfl ?_))
           exact W.skip (E.joinJ ⟨rfl, rfl, h⟩ ⟨rfl, rfl, rfl, rfl, rfl, rfl, rfl, rfl, rfl, rfl, trivial⟩ (fun _ hw => hw))
        ·
         replace h := iteT h
         refine L.y rfl (Y.move rfl) ?_
         refine L.pass rfl rfl (by nofun) ?_
         refine L.pass rfl rfl (by nofun) ?_
         refine L.pass rfl rfl (by nofun) ?_
         refine L.y rfl (Y.pickT rfl rfl) ?_
         refine L.y rfl (Y.move rfl) ?_
         refine L.pass rfl rfl (by nofun) ?_
         refine L.pass rfl rfl (by nofun) ?_
         refine L.pass rfl rfl (by nofun) ?_
         refine L.y rfl (Y.pickT rfl rfl) ?_
         refine L.nil (E.thenN (W.condT rfl ?_))
         refine W.seq (W.region (L.y rfl (Y.build (cells := #[.slice none 0 0, .slice none 0 0]) rfl (by kernel_rfl)) ?_))
         refine L.store (i := 7) (vs := [.slice none 0 0, .slice none 0 0]) sz27 rfl rfl rfl rfl (by simp [Value.oneCell', Value.cells, st, pt, el]) rfl (Nat.le_of_ble_eq_true rfl) ?_
         refine L.y rfl (Y.assign rfl) ?_
         refine L.nil (E.thenN (W.ret (E.KSR (E.blockR (E.KSR (E.KLR (E.blockR (E.KSR (E.retR2 rfl (Rv.cellW (i := 7) ag27 sz27 rfl rfl rfl) (Rv.tmp rfl) (fun w1 hw => ?_))))))))))
         obtain rfl := Option.some.inj h
         exact ⟨_, _, rfl, ⟨[], rfl, (.slice none 0 0), (fun _ => []), (.slice none 0 0), (fun _ => []), rfl, Fz.nil, FzA.nil, Fz.nil, FzA.nil⟩, hw.sel [11] (by decide) rfl⟩
      ·
       rintro _ _ ⟨rfl, rfl, h⟩
       rw [m4_order_Of_K4] at h
       refine W.seqJ (fun gs D => ∃ (gl36 : (List Int)) (gq37 : Int → Nat) (gq38 : Int → Value) (gl39 : (List (Int × (List TGot)))), gs = [(1, u1), (4, pt b1 0), (6, .map (some b2)), (7, pt b3 0), (8, pt b6 0), (9, .int .i64 gx11), (10, pt b28 0), (27, u0), (28, .int .i64 (a0.length : Int)), (29, .int .i64 gx11)] ∧ D = Cls w [] [.obj b28 [.int .i64 x27.Tx, .int .i64 x27.Kind, .int .i64 x27.Item] 37, .obj b6 [gv12, (sv b5 (20 : Int).toNat)] 27, .obj b3 (zr svRow gq18 gl17).flatten 35, .ss (zs (svSd 3 1 I) gq18 gl17), .mp b2 (mrow (VT gq37) (tk gl36)), .os (tsObs gq37 gq38 41 gl36), .any (tsRes gq23 gq38 45 2 (tsRows TGot.row gl39) (zs TTale.sds gq14 gl13)), .obj b1 [.slice none 0 0, .slice none 0 0] 27, .sl gv12 41 2 (zr TTale.rowv gq14 gl13), .sl (sv b5 (20 : Int).toNat) 34 1 (zr svRow gq16 gl15), .ss (zs (svSd 3 1 I) gq16 gl15), .os []] ∧ m4_order_Of_K5 x27 a1 gx11 go1 gl13 gl15 gl17 gl36 gl39 = some r) ?_ ?_
       ·
        refine W.seq (W.region (L.y rfl (Y.move rfl) ?_))
        refine L.y rfl (Y.fieldP fd37_0 rfl) ?_
        refine L.y rfl (Y.loadP (i := 0) ag3 rfl rfl rfl) ?_
        refine L.y rfl (Y.lookupM (i := 4) (g := VT gq20) (lm := tk gl19) (z0 := none) Try.underlying33 Try.underlying3 (by kernel_rfl) rfl rfl rfl rfl) ?_
        refine L.iteB h rfl (Y.eqlVT Try.underlying38 rfl rfl) (fun c141 h => ?_) (fun c141 h => ?_)
        ·
         refine L.nil (E.thenN (W.condT rfl ?_))
         refine W.region (L.y rfl (Y.move rfl) ?_)
         refine L.y rfl (Y.fieldP fd37_0 rfl) ?_
         refine L.y rfl (Y.loadP (i := 0) ag3 rfl rfl rfl) ?_
         refine L.y rfl (Y.fieldP fd37_0 rfl) ?_
         refine L.y rfl (Y.loadP (i := 0) ag3 rfl rfl rfl) ?_
         refine L.y rfl (Y.build (cells := #[.int .i64 x27.Tx, .slice none 0 0]) rfl (by kernel_rfl)) ?_
         refine L.box rfl rfl ?_
         intro b142
         refine L.to (D := Cls w [] [.obj b142 [.int .i64 x27.Tx, .slice none 0 0] 41, .mp b2 (mrow (VT gq20) (tk gl19)), .os (tsObs gq20 gq21 41 gl19), .any (tsRes gq23 gq21 45 2 (tsRows TGot.row gl22) (zs TTale.sds gq14 gl13)), .obj b28 [.int .i64 x27.Tx, .int .i64 x27.Kind, .int .i64 x27.Item] 37, .obj b6 [gv12, (sv b5 (20 : Int).toNat)] 27, .obj b3 (zr svRow gq18 gl17).flatten 35, .ss (zs (svSd 3 1 I) gq18 gl17), .obj b1 [.slice none 0 0, .slice none 0 0] 27, .sl gv12 41 2 (zr TTale.rowv gq14 gl13), .sl (sv b5 (20 : Int).toNat) 34 1 (zr svRow gq16 gl15), .ss (zs (svSd 3 1 I) gq16 gl15), .os []]) (fun _ hw => hw.sel [0, 5, 6, 7, 1, 2, 3, 4, 8, 9, 10, 11, 12] (by decide) rfl) ?_
         refine L.tsAdd (a := x27.Tx) (bs := gq20) (us := gq21) (ks := gl19) (tl := gl22) h Try.underlying33 Try.underlying3 rfl rfl rfl ?_
         intro l143 l144 q145 q146 e147 h
         exact L.nil (E.joinJ ⟨l143, q145, q146, l144, rfl, rfl, h⟩ ⟨rfl, rfl, rfl, rfl, rfl, rfl, rfl, rfl, rfl, rfl, trivial⟩ (fun _ hw => hw.sel [3, 4, 5, 6, 0, 1, 2, 7, 8, 9, 10, 11] (by decide) rfl))
        ·
         refine L.nil (E.thenN (W.condF rfl ?_))
         exact W.skip (E.joinJ ⟨gl19, gq20, gq21, gl22, rfl, rfl, h⟩ ⟨rfl, rfl, rfl, rfl, rfl, rfl, rfl, rfl, rfl, rfl, trivial⟩ (fun _ hw => hw))
       ·
        rintro _ _ ⟨gl36, gq37, gq38, gl39, rfl, rfl, h⟩
        rw [m4_order_Of_K5] at h
        refine W.block (W.seqJ (fun gs D => ∃ (gb40 : Bool), gs = [(1, u1), (4, pt b1 0), (6, .map (some b2)), (7, pt b3 0), (8, pt b6 0), (9, .int .i64 gx11), (10, pt b28 0), (27, u0), (28, .int .i64 (a0.length : Int)), (29, .int .i64 gx11), (65, .bool gb40)] ∧ D = Cls w [] [.obj b28 [.int .i64 x27.Tx, .int .i64 x27.Kind, .int .i64 x27.Item] 37, .obj b6 [gv12, (sv b5 (20 : Int).toNat)] 27, .obj b3 (zr svRow gq18 gl17).flatten 35, .ss (zs (svSd 3 1 I) gq18 gl17), .mp b2 (mrow (VT gq37) (tk gl36)), .os (tsObs gq37 gq38 41 gl36), .any (tsRes gq23 gq38 45 2 (tsRows TGot.row gl39) (zs TTale.sds gq14 gl13)), .obj b1 [.slice none 0 0, .slice none 0 0] 27, .sl gv12 41 2 (zr TTale.rowv gq14 gl13), .sl (sv b5 (20 : Int).toNat) 34 1 (zr svRow gq16 gl15), .ss (zs (svSd 3 1 I) gq16 gl15), .os []] ∧ m4_order_Of_K6 gl36 x27 a1 gx11 gl39 go1 gl13 gl15 gl17 gb40 = some r) ?_ ?_)
        ·
         refine W.quietC mixed (by kernel_rfl) (fun _ hw => hw.drew) (fun hC => ?_)
         refine U.cutJ hC 13 (fun gs => ∃ (gb49 : Bool), gs = [(1, u1), (4, pt b1 0), (6, .map (some b2)), (7, pt b3 0), (8, pt b6 0), (9, .int .i64 gx11), (10, pt b28 0), (27, u0), (28, .int .i64 (a0.length : Int)), (29, .int .i64 gx11), (78, .bool gb49)] ∧ m4_order_Of_K11 gl36 x27 a1 gx11 gl39 go1 gl13 gl15 gl17 gb49 = some r) ?_ ?_
         ·
          refine U.y rfl (Y.fieldP fd37_1 rfl) ?_
          refine U.y rfl (Y.loadP (i := 0) ag3 rfl rfl rfl) ?_
          refine U.ite h rfl (Y.eql rfl rfl) (fun c138 h => ?_) (fun c138 h => ?_)
          ·
           refine U.y rfl (Y.move rfl) ?_
           refine U.take rfl (U.y rfl (Y.move rfl) ?_)
           refine U.take rfl (U.y rfl (Y.move rfl) ?_)
           refine U.take rfl (U.m (V := fun _ => el u1 (gx11.toNat * 2)) h rfl (Y.indexM (g := TDid.row) (l := a1) Try.underlying23 sz43 rfl rfl (fun w' hw => (hA1.up.clsP hK hw rfl))) (fun x139 ex139 h => ?_))
           refine U.take rfl (U.y rfl (Y.fieldE fd43_1 rfl) ?_)
           refine U.take rfl (U.y rfl (Y.loadE (u := .int .i64 x139.From) ag3 rfl (fun w' hw => (hA1.up.clsP hK hw rfl)) (idx_map ex139) rfl) ?_)
           refine U.take rfl (U.y rfl (Y.fieldP fd37_0 rfl) ?_)
           refine U.take rfl (U.y rfl (Y.loadP (i := 0) ag3 rfl rfl rfl) ?_)
           refine U.take rfl (U.ite h rfl (Y.neq rfl rfl) (fun c140 h => ?_) (fun c140 h => ?_))
           ·
            refine U.y rfl (Y.pickT rfl rfl) ?_
            exact U.nil (E.joinU ⟨true, rfl, h⟩ ⟨rfl, rfl, rfl, rfl, rfl, rfl, rfl, rfl, rfl, rfl, rfl, trivial⟩)
           ·
            refine U.y rfl (Y.pickT rfl rfl) ?_
            exact U.nil (E.joinU ⟨false, rfl, h⟩ ⟨rfl, rfl, rfl, rfl, rfl, rfl, rfl, rfl, rfl, rfl, rfl, trivial⟩)
          ·
           refine U.y rfl (Y.move rfl) ?_
           refine U.pass rfl rfl (by nofun) ?_
           refine U.pass rfl rfl (by nofun) ?_
           refine U.pass rfl rfl (by nofun) ?_
           refine U.pass rfl rfl (by nofun) ?_
           refine U.pass rfl rfl (by nofun) ?_
           refine U.pass rfl rfl (by nofun) ?_
           refine U.pass rfl rfl (by nofun) ?_
           refine U.pass rfl rfl (by nofun) ?_
           refine U.y rfl (Y.pickF rfl rfl) ?_
           exact U.nil (E.joinU ⟨false, rfl, h⟩ ⟨rfl, rfl, rfl, rfl, rfl, rfl, rfl, rfl, rfl, rfl, rfl, trivial⟩)
         ·
          rintro _ ⟨gb49, rfl, h⟩
          rw [m4_order_Of_K11] at h
          rcases gb49 with _ | _
          ·
           replace h := iteF h
           refine U.y rfl (Y.assign rfl) ?_
           exact U.nil (E.joinJ ⟨false, rfl, rfl, h⟩ ⟨rfl, rfl, rfl, rfl, rfl, rfl, rfl, rfl, rfl, rfl, rfl, trivial⟩ (fun _ hw => hw))
          ·
           replace h := iteT h
           refine U.y rfl (Y.assign rfl) ?_
           exact U.nil (E.joinJ ⟨true, rfl, rfl, h⟩ ⟨rfl, rfl, rfl, rfl, rfl, rfl, rfl, rfl, rfl, rfl, rfl, trivial⟩ (fun _ hw => hw))
        ·
         rintro _ _ ⟨gb40, rfl, rfl, h⟩
         rw [m4_order_Of_K6] at h
         rcases gb40 with _ | _
         ·
          replace h := iteF h
          refine W.condF rfl ?_
          refine W.seqJ (fun gs D => ∃ (gb41 : Bool), gs = [(1, u1), (4, pt b1 0), (6, .map (some b2)), (7, pt b3 0), (8, pt b6 0), (9, .int .i64 gx11), (10, pt b28 0), (27, u0), (28, .int .i64 (a0.length : Int)), (29, .int .i64 gx11), (102, .bool gb41)] ∧ D = Cls w [] [.obj b28 [.int .i64 x27.Tx, .int .i64 x27.Kind, .int .i64 x27.Item] 37, .obj b6 [gv12, (sv b5 (20 : Int).toNat)] 27, .obj b3 (zr svRow gq18 gl17).flatten 35, .ss (zs (svSd 3 1 I) gq18 gl17), .mp b2 (mrow (VT gq37) (tk gl36)), .os (tsObs gq37 gq38 41 gl36), .any (tsRes gq23 gq38 45 2 (tsRows TGot.row gl39) (zs TTale.sds gq14 gl13)), .obj b1 [.slice none 0 0, .slice none 0 0] 27, .sl gv12 41 2 (zr TTale.rowv gq14 gl13), .sl (sv b5 (20 : Int).toNat) 34 1 (zr svRow gq16 gl15), .ss (zs (svSd 3 1 I) gq16 gl15), .os []] ∧ m4_order_Of_K7 gl17 x27 gx11 go1 gl13 gl15 gl36 gl39 a1 gb41 = some r) ?_ ?_
          ·
           refine W.quietC mixed (by kernel_rfl) (fun _ hw => hw.drew) (fun hC => ?_)
           refine U.cutJ hC 13 (fun gs => ∃ (gb48 : Bool), gs = [(1, u1), (4, pt b1 0), (6, .map (some b2)), (7, pt b3 0), (8, pt b6 0), (9, .int .i64 gx11), (10, pt b28 0), (27, u0), (28, .int .i64 (a0.length : Int)), (29, .int .i64 gx11), (115, .bool gb48)] ∧ m4_order_Of_K10 gl17 x27 gx11 go1 gl13 gl15 gl36 gl39 a1 gb48 = some r) ?_ ?_
           ·
            refine U.y rfl (Y.fieldP fd37_1 rfl) ?_
            refine U.y rfl (Y.loadP (i := 0) ag3 rfl rfl rfl) ?_
            refine U.ite h rfl (Y.eql rfl rfl) (fun c110 h => ?_) (fun c110 h => ?_)
            ·
             refine U.y rfl (Y.move rfl) ?_
             refine U.take rfl (U.y rfl (Y.fieldP fd37_0 rfl) ?_)
             refine U.take rfl (U.y rfl (Y.loadP (i := 0) ag3 rfl rfl rfl) ?_)
             refine U.take rfl (U.m (V := fun _ => pt b3 (0 + x27.Tx.toNat * 1)) h rfl (Y.indexAM (l := gl17) Try.underlying35 sz34 rfl rfl) (fun x111 ex111 h => ?_))
             refine U.take rfl (U.y rfl (Y.loadZ (q := 2) (row := svRow) (vs := gq18) (j := 0) (pv := gv (gq18 x27.Tx.toNat) 0) ag34 rfl rfl rfl (fun _ _ => rfl) (idxA_idx ex111) rfl) ?_)
             refine U.take rfl (U.y rfl (Y.fieldP fd37_2 rfl) ?_)
             refine U.take rfl (U.y rfl (Y.loadP (i := 0) ag3 rfl rfl rfl) ?_)
             refine U.take rfl ?_
             obtain ⟨b112, e113, h⟩ := bind1S h
             refine U.y rfl (Y.does en7 rfl (fun w' hw => (w7_slices_Contains_int x111 x27.Item (gv (gq18 x27.Tx.toNat) 0) w' _ e113 (As.atZ (sds := (svSd 3 1 I)) (vs := gq18) (j := 0) (c := 1) (hw.get (i := 3) rfl) (fun _ _ => rfl) (idxA_idx ex111) rfl)).mono (fun _ _ h => h.1))) ?_
             rcases b112 with _ | _
             ·
              replace h := iteF h
              refine U.take rfl (U.y rfl (Y.not rfl) ?_)
              refine U.y rfl (Y.pickT rfl rfl) ?_
              exact U.nil (E.joinU ⟨true, rfl, h⟩ ⟨rfl, rfl, rfl, rfl, rfl, rfl, rfl, rfl, rfl, rfl, rfl, trivial⟩)
             ·
              replace h := iteT h
              refine U.take rfl (U.y rfl (Y.not rfl) ?_)
              refine U.y rfl (Y.pickT rfl rfl) ?_
              exact U.nil (E.joinU ⟨false, rfl, h⟩ ⟨rfl, rfl, rfl, rfl, rfl, rfl, rfl, rfl, rfl, rfl, rfl, trivial⟩)
            ·
             refine U.y rfl (Y.move rfl) ?_
             refine U.pass rfl rfl (by nofun) ?_
             refine U.pass rfl rfl (by nofun) ?_
             refine U.pass rfl rfl (by nofun) ?_
             refine U.pass rfl rfl (by nofun) ?_
             refine U.pass rfl rfl (by nofun) ?_
             refine U.pass rfl rfl (by nofun) ?_
             refine U.pass rfl rfl (by nofun) ?_
             refine U.pass rfl rfl (by nofun) ?_
             refine U.y rfl (Y.pickF rfl rfl) ?_
             exact U.nil (E.joinU ⟨false, rfl, h⟩ ⟨rfl, rfl, rfl, rfl, rfl, rfl, rfl, rfl, rfl, rfl, rfl, trivial⟩)
           ·
            rintro _ ⟨gb48, rfl, h⟩
            rw [m4_order_Of_K10] at h
            rcases gb48 with _ | _
            ·
             replace h := iteF h
             refine U.y rfl (Y.assign rfl) ?_
             exact U.nil (E.joinJ ⟨false, rfl, rfl, h⟩ ⟨rfl, rfl, rfl, rfl, rfl, rfl, rfl, rfl, rfl, rfl, rfl, trivial⟩ (fun _ hw => hw))
            ·
             replace h := iteT h
             refine U.y rfl (Y.assign rfl) ?_
             exact U.nil (E.joinJ ⟨true, rfl, rfl, h⟩ ⟨rfl, rfl, rfl, rfl, rfl, rfl, rfl, rfl, rfl, rfl, rfl, trivial⟩ (fun _ hw => hw))
          ·
           rintro _ _ ⟨gb41, rfl, rfl, h⟩
           rw [m4_order_Of_K7] at h
           rcases gb41 with _ | _
           ·
            replace h := iteF h
            refine W.condF rfl ?_
            refine W.seq (W.region (L.cutJ 10 (fun gs D => ∃ (gb42 : Bool), gs = [(1, u1), (4, pt b1 0), (6, .map (some b2)), (7, pt b3 0), (8, pt b6 0), (10, pt b28 0), (27, u0), (28, .int .i64 (a0.length : Int)), (29, .int .i64 gx11), (137, .bool gb42)] ∧ D = Cls w [] [.obj b28 [.int .i64 x27.Tx, .int .i64 x27.Kind, .int .i64 x27.Item] 37, .obj b6 [gv12, (sv b5 (20 : Int).toNat)] 27, .obj b3 (zr svRow gq18 gl17).flatten 35, .ss (zs (svSd 3 1 I) gq18 gl17), .mp b2 (mrow (VT gq37) (tk gl36)), .os (tsObs gq37 gq38 41 gl36), .any (tsRes gq23 gq38 45 2 (tsRows TGot.row gl39) (zs TTale.sds gq14 gl13)), .obj b1 [.slice none 0 0, .slice none 0 0] 27, .sl gv12 41 2 (zr TTale.rowv gq14 gl13), .sl (sv b5 (20 : Int).toNat) 34 1 (zr svRow gq16 gl15), .ss (zs (svSd 3 1 I) gq16 gl15), .os []] ∧ m4_order_Of_K8 gl17 x27 gl36 gl39 gl13 gx11 go1 gl15 gb42 = some r) ?_ ?_))
            ·
             refine L.y rfl (Y.fieldP fd37_1 rfl) ?_
             refine L.y rfl (Y.loadP (i := 0) ag3 rfl rfl rfl) ?_
             refine L.ite h rfl (Y.eql rfl rfl) (fun c82 h => ?_) (fun c82 h => ?_)
             ·
              refine L.y rfl (Y.move rfl) ?_
              refine L.take rfl (L.y rfl (Y.move rfl) ?_)
              refine L.take rfl (L.y rfl (Y.move rfl) ?_)
              refine L.take rfl (L.m (V := fun _ => el u1 (gx11.toNat * 2)) h rfl (Y.indexM (g := TDid.row) (l := a1) Try.underlying23 sz43 rfl rfl (fun w' hw => (hA1.up.clsP hK hw rfl))) (fun x83 ex83 h => ?_))
              refine L.take rfl (L.y rfl (Y.fieldE fd43_0 rfl) ?_)
              refine L.take rfl (L.iteB h rfl (Y.loadE (u := .bool x83.OK) ag4 rfl (fun w' hw => (hA1.up.clsP hK hw rfl)) (idx_map ex83) rfl) (fun c84 h => ?_) (fun c84 h => ?_))
              ·
               refine L.y rfl (Y.pickT rfl rfl) ?_
               exact L.nil (E.joinJ ⟨true, rfl, rfl, h⟩ ⟨rfl, rfl, rfl, rfl, rfl, rfl, rfl, rfl, rfl, rfl, trivial⟩ (fun _ hw => hw))
              ·
               refine L.y rfl (Y.pickT rfl rfl) ?_
               exact L.nil (E.joinJ ⟨false, rfl, rfl, h⟩ ⟨rfl, rfl, rfl, rfl, rfl, rfl, rfl, rfl, rfl, rfl, trivial⟩ (fun _ hw => hw))
             ·
              refine L.y rfl (Y.move rfl) ?_
              refine L.pass rfl rfl (by nofun) ?_
              refine L.pass rfl rfl (by nofun) ?_
              refine L.pass rfl rfl (by nofun) ?_
              refine L.pass rfl rfl (by nofun) ?_
              refine L.pass rfl rfl (by nofun) ?_
              refine L.y rfl (Y.pickF rfl rfl) ?_
              exact L.nil (E.joinJ ⟨false, rfl, rfl, h⟩ ⟨rfl, rfl, rfl, rfl, rfl, rfl, rfl, rfl, rfl, rfl, trivial⟩ (fun _ hw => hw))
            ·
             rintro _ _ ⟨gb42, rfl, rfl, h⟩
             rw [m4_order_Of_K8] at h
             rcases gb42 with _ | _
             ·
              replace h := iteF h
              refine L.y rfl (Y.assign rfl) ?_
              refine L.nil (E.thenN (W.condF rfl ?_))
              exact W.skip (E.blockN (E.blockN (E.joinJ ⟨gv12, gl13, gq14, gl15, gq16, gl17, gq18, gl36, gq37, gq38, gl39, gq23, rfl, rfl, h⟩ ⟨rfl, rfl, rfl, rfl, rfl, rfl, rfl, rfl, trivial⟩ (fun _ hw => hw.sel [1, 2, 3, 4, 5, 6, 7, 8, 9, 10, 11] (by decide) rfl))))
             ·
              replace h := iteT h
              refine L.y rfl (Y.assign rfl) ?_
              refine L.nil (E.thenN (W.condT rfl ?_))
              refine W.seqJ (fun gs D => ∃ (gl43 : (List (List Int))) (gq44 : Nat → List Value), gs = [(1, u1), (4, pt b1 0), (6, .map (some b2)), (7, pt b3 0), (8, pt b6 0), (10, pt b28 0), (27, u0), (28, .int .i64 (a0.length : Int)), (29, .int .i64 gx11)] ∧ D = Cls w [] [.obj b28 [.int .i64 x27.Tx, .int .i64 x27.Kind, .int .i64 x27.Item] 37, .obj b6 [gv12, (sv b5 (20 : Int).toNat)] 27, .obj b3 (zr svRow gq18 gl17).flatten 35, .ss (zs (svSd 3 1 I) gq18 gl17), .mp b2 (mrow (VT gq37) (tk gl36)), .os (tsObs gq37 gq38 41 gl36), .any (tsRes gq23 gq38 45 2 (tsRows TGot.row gl39) (zs TTale.sds gq14 gl13)), .obj b1 [.slice none 0 0, .slice none 0 0] 27, .sl gv12 41 2 (zr TTale.rowv gq14 gl13), .sl (sv b5 (20 : Int).toNat) 34 1 (zr svRow gq44 gl43), .ss (zs (svSd 3 1 I) gq44 gl43), .os []] ∧ m4_order_Of_K9 gl36 x27 gl39 gl13 gx11 go1 gl17 gl43 = some r) ?_ ?_
              ·
               refine W.seq (W.region (L.y rfl (Y.fieldP fd37_0 rfl) ?_))
               refine L.y rfl (Y.loadP (i := 0) ag3 rfl rfl rfl) ?_
               refine L.m (V := fun _ => pt b3 (0 + x27.Tx.toNat * 1)) h rfl (Y.indexAM (l := gl17) Try.underlying35 sz34 rfl rfl) (fun x53 ex53 h => ?_)
               refine L.y rfl (Y.loadZ (q := 2) (row := svRow) (vs := gq18) (j := 0) (pv := gv (gq18 x27.Tx.toNat) 0) ag34 rfl rfl rfl (fun _ _ => rfl) (idxA_idx ex53) rfl) ?_
               refine L.y rfl (Y.lenM (g := I) (l := x53) Try.underlying34 rfl (fun w hw => As.atZ (sds := (svSd 3 1 I)) (vs := gq18) (j := 0) (c := 1) (hw.get (i := 3) rfl) (fun _ _ => rfl) (idxA_idx ex53) rfl)) ?_
               refine L.y rfl (Y.move rfl) ?_
               refine L.nil (E.thenN (W.block (W.loopJ (fun m gs D => ∃ (gx45 : Int) (gl46 : (List (List Int))) (gq47 : Nat → List Value), gs = [(1, u1), (4, pt b1 0), (6, .map (some b2)), (7, pt b3 0), (8, pt b6 0), (10, pt b28 0), (27, u0), (28, .int .i64 (a0.length : Int)), (29, .int .i64 gx11), (141, gv (gq18 x27.Tx.toNat) 0), (142, .int .i64 (x53.length : Int)), (143, .int .i64 gx45)] ∧ D = Cls w [] [.obj b28 [.int .i64 x27.Tx, .int .i64 x27.Kind, .int .i64 x27.Item] 37, .obj b6 [gv12, (sv b5 (20 : Int).toNat)] 27, .obj b3 (zr svRow gq18 gl17).flatten 35, .ss (zs (svSd 3 1 I) gq18 gl17), .mp b2 (mrow (VT gq37) (tk gl36)), .os (tsObs gq37 gq38 41 gl36), .any (tsRes gq23 gq38 45 2 (tsRows TGot.row gl39) (zs TTale.sds gq14 gl13)), .obj b1 [.slice none 0 0, .slice none 0 0] 27, .sl gv12 41 2 (zr TTale.rowv gq14 gl13), .sl (sv b5 (20 : Int).toNat) 34 1 (zr svRow gq47 gl46), .ss (zs (svSd 3 1 I) gq47 gl46), .os []] ∧ m4_order_Of_L2 x53 x27 gl36 gl39 gl13 gx11 go1 gl17 m gx45 gl46 = some r) ⟨0, gl15, gq16, rfl, rfl, h⟩ ⟨rfl, rfl, rfl, rfl, rfl, rfl, rfl, rfl, rfl, rfl, rfl, rfl, trivial⟩ (fun _ hw => hw) ?_)))
               rintro m _ _ ⟨gx45, gl46, gq47, rfl, rfl, h⟩
               rcases m with _ | m
               · rw [m4_order_Of_L2] at h; cases h
               rw [m4_order_Of_L2] at h
               generalize hg2 : m4_order_Of_L2 x53 x27 gl36 gl39 gl13 gx11 go1 gl17 m = go2 at h
               rw [m4_order_Of_L2B] at h
               refine W.seq (W.region (L.ite h rfl (Y.lss rfl rfl) (fun c54 h => ?_) (fun c54 h => ?_)))
               ·
                refine L.nil (E.thenN (W.seq (W.condT rfl ?_)))
                refine W.skip (E.thenN (W.seq (W.block (W.seq (W.region (L.m (V := fun _ => el (gv (gq18 x27.Tx.toNat) 0) (gx45.toNat * 1)) h rfl (Y.indexM (g := I) (l := x53) Try.underlying34 sz3 rfl rfl (fun w hw => As.atZ (sds := (svSd 3 1 I)) (vs := gq18) (j := 0) (c := 1) (hw.get (i := 3) rfl) (fun _ _ => rfl) (idxA_idx ex53) rfl)) (fun x55 ex55 h => ?_)))))))
                refine L.y rfl (Y.loadE1 (u := .int .i64 x55) ag3 rfl (fun w hw => As.atZ (sds := (svSd 3 1 I)) (vs := gq18) (j := 0) (c := 1) (hw.get (i := 3) rfl) (fun _ _ => rfl) (idxA_idx ex53) rfl) (idx_map ex55)) ?_
                refine L.y rfl (Y.assign rfl) ?_
                refine L.nil (E.thenN (W.drawn2 (k := 14) (stC [[11, 13], [13]] [Cls w [] [.obj b28 [.int .i64 x27.Tx, .int .i64 x27.Kind, .int .i64 x27.Item] 37, .obj b6 [gv12, (sv b5 (20 : Int).toNat)] 27, .obj b3 (zr svRow gq18 gl17).flatten 35, .ss (zs (svSd 3 1 I) gq18 gl17), .mp b2 (mrow (VT gq37) (tk gl36)), .os (tsObs gq37 gq38 41 gl36), .any (tsRes gq23 gq38 45 2 (tsRows TGot.row gl39) (zs TTale.sds gq14 gl13)), .obj b1 [.slice none 0 0, .slice none 0 0] 27, .sl gv12 41 2 (zr TTale.rowv gq14 gl13), .sl (sv b5 (20 : Int).toNat) 34 1 (zr svRow gq47 gl46), .ss (zs (svSd 3 1 I) gq47 gl46), .os []], Cls w [] [.obj b28 [.int .i64 x27.Tx, .int .i64 x27.Kind, .int .i64 x27.Item] 37, .obj b6 [gv12, (sv b5 (20 : Int).toNat)] 27, .obj b3 (zr svRow gq18 gl17).flatten 35, .ss (zs (svSd 3 1 I) gq18 gl17), .mp b2 (mrow (VT gq37) (tk gl36)), .os (tsObs gq37 gq38 41 gl36), .any (tsRes gq23 gq38 45 2 (tsRows TGot.row gl39) (zs TTale.sds gq14 gl13)), .obj b1 [.slice none 0 0, .slice none 0 0] 27, .sl gv12 41 2 (zr TTale.rowv gq14 gl13), .sl (sv b5 (20 : Int).toNat) 34 1 (zr svRow gq47 gl46), .os []]] (Cls w [] [.obj b28 [.int .i64 x27.Tx, .int .i64 x27.Kind, .int .i64 x27.Item] 37, .obj b6 [gv12, (sv b5 (20 : Int).toNat)] 27, .obj b3 (zr svRow gq18 gl17).flatten 35, .ss (zs (svSd 3 1 I) gq18 gl17), .mp b2 (mrow (VT gq37) (tk gl36)), .os (tsObs gq37 gq38 41 gl36), .any (tsRes gq23 gq38 45 2 (tsRows TGot.row gl39) (zs TTale.sds gq14 gl13)), .obj b1 [.slice none 0 0, .slice none 0 0] 27, .sl gv12 41 2 (zr TTale.rowv gq14 gl13), .os []])) rfl mixed (fun _ hw => hw.drew) (Sc.now (by kernel_rfl) (fun _ hw => hw)) ?_))
                refine V2.y (i := 0) (Nx2.of (Z := Cls w [] [.obj b28 [.int .i64 x27.Tx, .int .i64 x27.Kind, .int .i64 x27.Item] 37, .obj b6 [gv12, (sv b5 (20 : Int).toNat)] 27, .obj b3 (zr svRow gq18 gl17).flatten 35, .ss (zs (svSd 3 1 I) gq18 gl17), .mp b2 (mrow (VT gq37) (tk gl36)), .os (tsObs gq37 gq38 41 gl36), .any (tsRes gq23 gq38 45 2 (tsRows TGot.row gl39) (zs TTale.sds gq14 gl13)), .obj b1 [.slice none 0 0, .slice none 0 0] 27, .sl gv12 41 2 (zr TTale.rowv gq14 gl13), .os []]) [] (by kernel_rfl) rfl (Zc.on (fun _ hw => hw.sel [0, 1, 2, 3, 4, 5, 6, 7, 8, 11] (by decide) rfl) (Zc.on (fun _ hw => hw.sel [0, 1, 2, 3, 4, 5, 6, 7, 8, 10] (by decide) rfl) (Zc.fin (fun _ hw => hw))))) rfl rfl rfl (Y.fieldP fd27_1 rfl) ?_
                refine V2.y (i := 1) (Nx2.of (Z := Cls w [] [.obj b28 [.int .i64 x27.Tx, .int .i64 x27.Kind, .int .i64 x27.Item] 37, .obj b6 [gv12, (sv b5 (20 : Int).toNat)] 27, .obj b3 (zr svRow gq18 gl17).flatten 35, .ss (zs (svSd 3 1 I) gq18 gl17), .mp b2 (mrow (VT gq37) (tk gl36)), .os (tsObs gq37 gq38 41 gl36), .any (tsRes gq23 gq38 45 2 (tsRows TGot.row gl39) (zs TTale.sds gq14 gl13)), .obj b1 [.slice none 0 0, .slice none 0 0] 27, .sl gv12 41 2 (zr TTale.rowv gq14 gl13), .os []]) [] (by kernel_rfl) rfl (Zc.on (fun _ hw => hw.sel [0, 1, 2, 3, 4, 5, 6, 7, 8, 11] (by decide) rfl) (Zc.on (fun _ hw => hw.sel [0, 1, 2, 3, 4, 5, 6, 7, 8, 10] (by decide) rfl) (Zc.fin (fun _ hw => hw))))) rfl rfl rfl (Y.loadP (i := 1) ag25 rfl rfl rfl) ?_
                refine V2.y (i := 2) (Nx2.of (Z := Cls w [] [.obj b28 [.int .i64 x27.Tx, .int .i64 x27.Kind, .int .i64 x27.Item] 37, .obj b6 [gv12, (sv b5 (20 : Int).toNat)] 27, .obj b3 (zr svRow gq18 gl17).flatten 35, .ss (zs (svSd 3 1 I) gq18 gl17), .mp b2 (mrow (VT gq37) (tk gl36)), .os (tsObs gq37 gq38 41 gl36), .any (tsRes gq23 gq38 45 2 (tsRows TGot.row gl39) (zs TTale.sds gq14 gl13)), .obj b1 [.slice none 0 0, .slice none 0 0] 27, .sl gv12 41 2 (zr TTale.rowv gq14 gl13), .os []]) [] (by kernel_rfl) rfl (Zc.on (fun _ hw => hw.sel [0, 1, 2, 3, 4, 5, 6, 7, 8, 11] (by decide) rfl) (Zc.on (fun _ hw => hw.sel [0, 1, 2, 3, 4, 5, 6, 7, 8, 10] (by decide) rfl) (Zc.fin (fun _ hw => hw))))) rfl rfl rfl (Y.move rfl) ?_
                refine V2.y (i := 3) (Nx2.of (Z := Cls w [] [.obj b28 [.int .i64 x27.Tx, .int .i64 x27.Kind, .int .i64 x27.Item] 37, .obj b6 [gv12, (sv b5 (20 : Int).toNat)] 27, .obj b3 (zr svRow gq18 gl17).flatten 35, .ss (zs (svSd 3 1 I) gq18 gl17), .mp b2 (mrow (VT gq37) (tk gl36)), .os (tsObs gq37 gq38 41 gl36), .any (tsRes gq23 gq38 45 2 (tsRows TGot.row gl39) (zs TTale.sds gq14 gl13)), .obj b1 [.slice none 0 0, .slice none 0 0] 27, .sl gv12 41 2 (zr TTale.rowv gq14 gl13), .os []]) [] (by kernel_rfl) rfl (Zc.on (fun _ hw => hw.sel [0, 1, 2, 3, 4, 5, 6, 7, 8, 11] (by decide) rfl) (Zc.on (fun _ hw => hw.sel [0, 1, 2, 3, 4, 5, 6, 7, 8, 10] (by decide) rfl) (Zc.fin (fun _ hw => hw))))) rfl rfl rfl (Y.fieldP fd27_1 rfl) ?_
                refine V2.y (i := 4) (Nx2.of (Z := Cls w [] [.obj b28 [.int .i64 x27.Tx, .int .i64 x27.Kind, .int .i64 x27.Item] 37, .obj b6 [gv12, (sv b5 (20 : Int).toNat)] 27, .obj b3 (zr svRow gq18 gl17).flatten 35, .ss (zs (svSd 3 1 I) gq18 gl17), .mp b2 (mrow (VT gq37) (tk gl36)), .os (tsObs gq37 gq38 41 gl36), .any (tsRes gq23 gq38 45 2 (tsRows TGot.row gl39) (zs TTale.sds gq14 gl13)), .obj b1 [.slice none 0 0, .slice none 0 0] 27, .sl gv12 41 2 (zr TTale.rowv gq14 gl13), .os []]) [] (by kernel_rfl) rfl (Zc.on (fun _ hw => hw.sel [0, 1, 2, 3, 4, 5, 6, 7, 8, 11] (by decide) rfl) (Zc.on (fun _ hw => hw.sel [0, 1, 2, 3, 4, 5, 6, 7, 8, 10] (by decide) rfl) (Zc.fin (fun _ hw => hw))))) rfl rfl rfl (Y.loadP (i := 1) ag25 rfl rfl rfl) ?_
                refine V2.y (i := 5) (Nx2.of (Z := Cls w [] [.obj b28 [.int .i64 x27.Tx, .int .i64 x27.Kind, .int .i64 x27.Item] 37, .obj b6 [gv12, (sv b5 (20 : Int).toNat)] 27, .obj b3 (zr svRow gq18 gl17).flatten 35, .ss (zs (svSd 3 1 I) gq18 gl17), .mp b2 (mrow (VT gq37) (tk gl36)), .os (tsObs gq37 gq38 41 gl36), .any (tsRes gq23 gq38 45 2 (tsRows TGot.row gl39) (zs TTale.sds gq14 gl13)), .obj b1 [.slice none 0 0, .slice none 0 0] 27, .sl gv12 41 2 (zr TTale.rowv gq14 gl13), .os []]) [] (by kernel_rfl) rfl (Zc.on (fun _ hw => hw.sel [0, 1, 2, 3, 4, 5, 6, 7, 8, 11] (by decide) rfl) (Zc.on (fun _ hw => hw.sel [0, 1, 2, 3, 4, 5, 6, 7, 8, 10] (by decide) rfl) (Zc.fin (fun _ hw => hw))))) rfl rfl rfl (Y.move rfl) ?_
                refine V2.m (i := 6) (V' := fun _ => el (sv b5 (20 : Int).toNat) (x55.toNat * 1)) h (Nx2.of (Z := Cls w [] [.obj b28 [.int .i64 x27.Tx, .int .i64 x27.Kind, .int .i64 x27.Item] 37, .obj b6 [gv12, (sv b5 (20 : Int).toNat)] 27, .obj b3 (zr svRow gq18 gl17).flatten 35, .ss (zs (svSd 3 1 I) gq18 gl17), .mp b2 (mrow (VT gq37) (tk gl36)), .os (tsObs gq37 gq38 41 gl36), .any (tsRes gq23 gq38 45 2 (tsRows TGot.row gl39) (zs TTale.sds gq14 gl13)), .obj b1 [.slice none 0 0, .slice none 0 0] 27, .sl gv12 41 2 (zr TTale.rowv gq14 gl13), .sl (sv b5 (20 : Int).toNat) 34 1 (zr svRow gq47 gl46), .os []]) [13] (by kernel_rfl) rfl (Zc.on (fun _ hw => hw.sel [0, 1, 2, 3, 4, 5, 6, 7, 8, 9, 11] (by decide) rfl) (Zc.at1 (fun _ hw => hw)))) rfl rfl rfl (Y.indexMZ (row := svRow) (vs := gq47) (l := gl46) Try.underlying25 sz34 rfl rfl (fun w hw => As.at_ (hw.get (i := 9) rfl))) (fun x74 ex74 h => ?_)
                refine V2.y (i := 7) (Nx2.of (Z := Cls w [] [.obj b28 [.int .i64 x27.Tx, .int .i64 x27.Kind, .int .i64 x27.Item] 37, .obj b6 [gv12, (sv b5 (20 : Int).toNat)] 27, .obj b3 (zr svRow gq18 gl17).flatten 35, .ss (zs (svSd 3 1 I) gq18 gl17), .mp b2 (mrow (VT gq37) (tk gl36)), .os (tsObs gq37 gq38 41 gl36), .any (tsRes gq23 gq38 45 2 (tsRows TGot.row gl39) (zs TTale.sds gq14 gl13)), .obj b1 [.slice none 0 0, .slice none 0 0] 27, .sl gv12 41 2 (zr TTale.rowv gq14 gl13), .sl (sv b5 (20 : Int).toNat) 34 1 (zr svRow gq47 gl46), .os []]) [13] (by kernel_rfl) rfl (Zc.on (fun _ hw => hw.sel [0, 1, 2, 3, 4, 5, 6, 7, 8, 9, 11] (by decide) rfl) (Zc.at1 (fun _ hw => hw)))) rfl rfl rfl (Y.loadE1 (u := gv (gq47 x55.toNat) 0) ag34 rfl (fun w hw => As.at_ (hw.get (i := 9) rfl)) (zr_idx (vs := gq47) ex74)) ?_
                refine V2.y (i := 8) (Nx2.of (Z := Cls w [] [.obj b28 [.int .i64 x27.Tx, .int .i64 x27.Kind, .int .i64 x27.Item] 37, .obj b6 [gv12, (sv b5 (20 : Int).toNat)] 27, .obj b3 (zr svRow gq18 gl17).flatten 35, .ss (zs (svSd 3 1 I) gq18 gl17), .mp b2 (mrow (VT gq37) (tk gl36)), .os (tsObs gq37 gq38 41 gl36), .any (tsRes gq23 gq38 45 2 (tsRows TGot.row gl39) (zs TTale.sds gq14 gl13)), .obj b1 [.slice none 0 0, .slice none 0 0] 27, .sl gv12 41 2 (zr TTale.rowv gq14 gl13), .os []]) [] (by kernel_rfl) rfl (Zc.on (fun _ hw => hw.sel [0, 1, 2, 3, 4, 5, 6, 7, 8, 11] (by decide) rfl) (Zc.on (fun _ hw => hw.sel [0, 1, 2, 3, 4, 5, 6, 7, 8, 10] (by decide) rfl) (Zc.fin (fun _ hw => hw))))) rfl rfl rfl (Y.fieldP fd37_0 rfl) ?_
                refine V2.y (i := 9) (Nx2.of (Z := Cls w [] [.obj b28 [.int .i64 x27.Tx, .int .i64 x27.Kind, .int .i64 x27.Item] 37, .obj b6 [gv12, (sv b5 (20 : Int).toNat)] 27, .obj b3 (zr svRow gq18 gl17).flatten 35, .ss (zs (svSd 3 1 I) gq18 gl17), .mp b2 (mrow (VT gq37) (tk gl36)), .os (tsObs gq37 gq38 41 gl36), .any (tsRes gq23 gq38 45 2 (tsRows TGot.row gl39) (zs TTale.sds gq14 gl13)), .obj b1 [.slice none 0 0, .slice none 0 0] 27, .sl gv12 41 2 (zr TTale.rowv gq14 gl13), .os []]) [] (by kernel_rfl) rfl (Zc.on (fun _ hw => hw.sel [0, 1, 2, 3, 4, 5, 6, 7, 8, 11] (by decide) rfl) (Zc.on (fun _ hw => hw.sel [0, 1, 2, 3, 4, 5, 6, 7, 8, 10] (by decide) rfl) (Zc.fin (fun _ hw => hw))))) rfl rfl rfl (Y.loadP (i := 0) ag3 rfl rfl rfl) ?_
                refine V2.eff (i := 10) (by kernel_rfl) rfl ?_
                refine L.litOne rfl Try.underlying34 eL3 rfl rfl ?_
                intro b75
                refine L.nil (E.toV2 (stC [[11, 13], [13]] [Cls w [] [.sl (sv b75 1) 3 1 (([x27.Tx]).map I), .obj b28 [.int .i64 x27.Tx, .int .i64 x27.Kind, .int .i64 x27.Item] 37, .obj b6 [gv12, (sv b5 (20 : Int).toNat)] 27, .obj b3 (zr svRow gq18 gl17).flatten 35, .ss (zs (svSd 3 1 I) gq18 gl17), .mp b2 (mrow (VT gq37) (tk gl36)), .os (tsObs gq37 gq38 41 gl36), .any (tsRes gq23 gq38 45 2 (tsRows TGot.row gl39) (zs TTale.sds gq14 gl13)), .obj b1 [.slice none 0 0, .slice none 0 0] 27, .sl gv12 41 2 (zr TTale.rowv gq14 gl13), .sl (sv b5 (20 : Int).toNat) 34 1 (zr svRow gq47 gl46), .ss (zs (svSd 3 1 I) gq47 gl46), .os []], Cls w [] [.sl (sv b75 1) 3 1 (([x27.Tx]).map I), .obj b28 [.int .i64 x27.Tx, .int .i64 x27.Kind, .int .i64 x27.Item] 37, .obj b6 [gv12, (sv b5 (20 : Int).toNat)] 27, .obj b3 (zr svRow gq18 gl17).flatten 35, .ss (zs (svSd 3 1 I) gq18 gl17), .mp b2 (mrow (VT gq37) (tk gl36)), .os (tsObs gq37 gq38 41 gl36), .any (tsRes gq23 gq38 45 2 (tsRows TGot.row gl39) (zs TTale.sds gq14 gl13)), .obj b1 [.slice none 0 0, .slice none 0 0] 27, .sl gv12 41 2 (zr TTale.rowv gq14 gl13), .sl (sv b5 (20 : Int).toNat) 34 1 (zr svRow gq47 gl46), .os []]] (Cls w [] [.sl (sv b75 1) 3 1 (([x27.Tx]).map I), .obj b28 [.int .i64 x27.Tx, .int .i64 x27.Kind, .int .i64 x27.Item] 37, .obj b6 [gv12, (sv b5 (20 : Int).toNat)] 27, .obj b3 (zr svRow gq18 gl17).flatten 35, .ss (zs (svSd 3 1 I) gq18 gl17), .mp b2 (mrow (VT gq37) (tk gl36)), .os (tsObs gq37 gq38 41 gl36), .any (tsRes gq23 gq38 45 2 (tsRows TGot.row gl39) (zs TTale.sds gq14 gl13)), .obj b1 [.slice none 0 0, .slice none 0 0] 27, .sl gv12 41 2 (zr TTale.rowv gq14 gl13), .os []])) 10 (by kernel_rfl) (Sc.stay (fun _ hw => hw.sel [1, 2, 3, 4, 5, 6, 7, 8, 9, 10, 11, 12] (by decide) rfl) (Sc.stay (fun _ hw => hw.sel [1, 2, 3, 4, 5, 6, 7, 8, 9, 10, 11] (by decide) rfl) (Sc.stayD (fun _ hw => hw.sel [1, 2, 3, 4, 5, 6, 7, 8, 9, 10] (by decide) rfl)))) (Sc.now (by kernel_rfl) (fun _ hw => hw)) ?_)
                refine V2.eff (i := 11) (by kernel_rfl) rfl ?_
                refine L.ssOut (sds := (svSd 3 1 I)) (vs := gq47) (s := 11) (j := 0) (c := 1) rfl (fun _ _ => rfl) ex74 rfl ?_
                refine L.appM (i := 0) (g := I) (l := x74) (more := [x27.Tx]) h rfl Try.underlying34 eL3 rfl rfl rfl (fun w hw => As.at_ (hw.get (i := 1) rfl)) (plain_ints _) rfl ?_
                intro v76 l77 el77 h
                refine L.nil (E.toV2 (stC [[13]] [Cls w [] [.sl v76 3 1 (l77.map I), .sl (sv b75 1) 3 1 (([x27.Tx]).map I), .obj b28 [.int .i64 x27.Tx, .int .i64 x27.Kind, .int .i64 x27.Item] 37, .obj b6 [gv12, (sv b5 (20 : Int).toNat)] 27, .obj b3 (zr svRow gq18 gl17).flatten 35, .ss (zs (svSd 3 1 I) gq18 gl17), .mp b2 (mrow (VT gq37) (tk gl36)), .os (tsObs gq37 gq38 41 gl36), .any (tsRes gq23 gq38 45 2 (tsRows TGot.row gl39) (zs TTale.sds gq14 gl13)), .obj b1 [.slice none 0 0, .slice none 0 0] 27, .sl gv12 41 2 (zr TTale.rowv gq14 gl13), .sl (sv b5 (20 : Int).toNat) 34 1 (zr svRow gq47 gl46), .os []]] (Cls w [] [.sl (sv b75 1) 3 1 (([x27.Tx]).map I), .obj b28 [.int .i64 x27.Tx, .int .i64 x27.Kind, .int .i64 x27.Item] 37, .obj b6 [gv12, (sv b5 (20 : Int).toNat)] 27, .obj b3 (zr svRow gq18 gl17).flatten 35, .ss (zs (svSd 3 1 I) gq18 gl17), .mp b2 (mrow (VT gq37) (tk gl36)), .os (tsObs gq37 gq38 41 gl36), .any (tsRes gq23 gq38 45 2 (tsRows TGot.row gl39) (zs TTale.sds gq14 gl13)), .obj b1 [.slice none 0 0, .slice none 0 0] 27, .sl gv12 41 2 (zr TTale.rowv gq14 gl13), .os []])) 11 (by kernel_rfl) (Sc.past rfl (Sc.stay (fun _ hw => hw.sel [1, 2, 3, 4, 5, 6, 7, 8, 9, 10, 11, 12] (by decide) rfl) (Sc.stayD (fun _ hw => hw)))) (Sc.now (by kernel_rfl) (fun _ hw => hw.sel [0, 1, 2, 3, 4, 5, 6, 7, 8, 9, 10, 11, 13] (by decide) rfl)) ?_)
                refine V2.m (i := 12) (V' := fun _ => el (sv b5 (20 : Int).toNat) (x55.toNat * 1)) h (Nx2.of (Z := Cls w [] [.sl v76 3 1 (l77.map I), .sl (sv b75 1) 3 1 (([x27.Tx]).map I), .obj b28 [.int .i64 x27.Tx, .int .i64 x27.Kind, .int .i64 x27.Item] 37, .obj b6 [gv12, (sv b5 (20 : Int).toNat)] 27, .obj b3 (zr svRow gq18 gl17).flatten 35, .ss (zs (svSd 3 1 I) gq18 gl17), .mp b2 (mrow (VT gq37) (tk gl36)), .os (tsObs gq37 gq38 41 gl36), .any (tsRes gq23 gq38 45 2 (tsRows TGot.row gl39) (zs TTale.sds gq14 gl13)), .obj b1 [.slice none 0 0, .slice none 0 0] 27, .sl gv12 41 2 (zr TTale.rowv gq14 gl13), .sl (sv b5 (20 : Int).toNat) 34 1 (zr svRow gq47 gl46), .os []]) [13] (by kernel_rfl) rfl (Zc.at1 (fun _ hw => hw))) rfl rfl rfl (Y.indexMZ (row := svRow) (vs := gq47) (l := gl46) Try.underlying25 sz34 rfl rfl (fun w hw => As.at_ (hw.get (i := 11) rfl))) (fun x78 ex78 h => ?_)
                refine V2.eff (i := 13) (by kernel_rfl) rfl ?_
                refine L.storeSlZS (row := svRow) (sds := (svSd 3 1 I)) (vs := gq47) (q := 11) (p := 0) (s := 12) (c := 1) (jj := 0) (u1 := l77) (v1 := [v76]) (j := 0) h sz34 rfl rfl rfl rfl rfl rfl (.inr rfl) (fun _ _ => rfl) (fun _ _ => rfl) ex78 rfl rfl rfl rfl (by decide) ?_
                intro l79 q80 el79 h
                refine L.nil (E.toV2 (stC [] [] (Cls w [] [.sl (sv b75 1) 3 1 (([x27.Tx]).map I), .obj b28 [.int .i64 x27.Tx, .int .i64 x27.Kind, .int .i64 x27.Item] 37, .obj b6 [gv12, (sv b5 (20 : Int).toNat)] 27, .obj b3 (zr svRow gq18 gl17).flatten 35, .ss (zs (svSd 3 1 I) gq18 gl17), .mp b2 (mrow (VT gq37) (tk gl36)), .os (tsObs gq37 gq38 41 gl36), .any (tsRes gq23 gq38 45 2 (tsRows TGot.row gl39) (zs TTale.sds gq14 gl13)), .obj b1 [.slice none 0 0, .slice none 0 0] 27, .sl gv12 41 2 (zr TTale.rowv gq14 gl13), .os []])) 13 (by kernel_rfl) (Sc.past rfl (Sc.stayD (fun _ hw => hw))) (Sc.atD (fun _ hw => hw.sel [0, 1, 2, 3, 4, 5, 6, 7, 8, 9, 12] (by decide) rfl)) ?_)
                refine V2.done (by kernel_rfl) ?_
                refine E.blockN (E.thenN (W.region (L.m (V := fun x81 => .int .i64 x81) h rfl (Y.addM rfl rfl) (fun x81 ex81 h => ?_))))
                refine L.y rfl (Y.move rfl) ?_
                exact L.nil (E.againJ ⟨x81, l79, q80, rfl, rfl, by rw [hg2]; exact h⟩ (Nat.lt_succ_self _) ⟨rfl, rfl, rfl, rfl, rfl, rfl, rfl, rfl, rfl, rfl, rfl, rfl, trivial⟩ (fun _ hw => hw.sel [1, 2, 3, 4, 5, 6, 7, 8, 9, 10, 11, 12] (by decide) rfl))
               ·
                refine L.nil (E.thenN (W.seq (W.condF rfl ?_)))
                exact W.exit (E.thenX (E.KLX (E.blockX (E.joinJ ⟨gl46, gq47, rfl, rfl, h⟩ ⟨rfl, rfl, rfl, rfl, rfl, rfl, rfl, rfl, rfl, trivial⟩ (fun _ hw => hw)))))
              ·
               rintro _ _ ⟨gl43, gq44, rfl, rfl, h⟩
               rw [m4_order_Of_K9] at h
               refine W.drawn2 (k := 12) (stC [[9, 11], [11]] [Cls w [] [.obj b28 [.int .i64 x27.Tx, .int .i64 x27.Kind, .int .i64 x27.Item] 37, .obj b6 [gv12, (sv b5 (20 : Int).toNat)] 27, .obj b3 (zr svRow gq18 gl17).flatten 35, .ss (zs (svSd 3 1 I) gq18 gl17), .mp b2 (mrow (VT gq37) (tk gl36)), .os (tsObs gq37 gq38 41 gl36), .any (tsRes gq23 gq38 45 2 (tsRows TGot.row gl39) (zs TTale.sds gq14 gl13)), .obj b1 [.slice none 0 0, .slice none 0 0] 27, .sl gv12 41 2 (zr TTale.rowv gq14 gl13), .sl (sv b5 (20 : Int).toNat) 34 1 (zr svRow gq44 gl43), .ss (zs (svSd 3 1 I) gq44 gl43), .os []], Cls w [] [.obj b28 [.int .i64 x27.Tx, .int .i64 x27.Kind, .int .i64 x27.Item] 37, .obj b6 [gv12, (sv b5 (20 : Int).toNat)] 27, .obj b3 (zr svRow gq18 gl17).flatten 35, .ss (zs (svSd 3 1 I) gq18 gl17), .mp b2 (mrow (VT gq37) (tk gl36)), .os (tsObs gq37 gq38 41 gl36), .obj b1 [.slice none 0 0, .slice none 0 0] 27, .sl (sv b5 (20 : Int).toNat) 34 1 (zr svRow gq44 gl43), .ss (zs (svSd 3 1 I) gq44 gl43), .os []]] (Cls w [] [.obj b28 [.int .i64 x27.Tx, .int .i64 x27.Kind, .int .i64 x27.Item] 37, .obj b3 (zr svRow gq18 gl17).flatten 35, .ss (zs (svSd 3 1 I) gq18 gl17), .mp b2 (mrow (VT gq37) (tk gl36)), .os (tsObs gq37 gq38 41 gl36), .obj b1 [.slice none 0 0, .slice none 0 0] 27, .sl (sv b5 (20 : Int).toNat) 34 1 (zr svRow gq44 gl43), .ss (zs (svSd 3 1 I) gq44 gl43), .os []])) rfl mixed (fun _ hw => hw.drew) (Sc.now (by kernel_rfl) (fun _ hw => hw)) ?_
               refine V2.y (i := 0) (Nx2.of (Z := Cls w [] [.obj b28 [.int .i64 x27.Tx, .int .i64 x27.Kind, .int .i64 x27.Item] 37, .obj b3 (zr svRow gq18 gl17).flatten 35, .ss (zs (svSd 3 1 I) gq18 gl17), .mp b2 (mrow (VT gq37) (tk gl36)), .os (tsObs gq37 gq38 41 gl36), .obj b1 [.slice none 0 0, .slice none 0 0] 27, .sl (sv b5 (20 : Int).toNat) 34 1 (zr svRow gq44 gl43), .ss (zs (svSd 3 1 I) gq44 gl43), .os []]) [] (by kernel_rfl) rfl (Zc.on (fun _ hw => hw.sel [0, 2, 3, 4, 5, 7, 9, 10, 11] (by decide) rfl) (Zc.on (fun _ hw => hw.sel [0, 2, 3, 4, 5, 6, 7, 8, 9] (by decide) rfl) (Zc.fin (fun _ hw => hw))))) rfl rfl rfl (Y.fieldP fd27_0 rfl) ?_
               refine V2.y (i := 1) (Nx2.of (Z := Cls w [] [.obj b28 [.int .i64 x27.Tx, .int .i64 x27.Kind, .int .i64 x27.Item] 37, .obj b6 [gv12, (sv b5 (20 : Int).toNat)] 27, .obj b3 (zr svRow gq18 gl17).flatten 35, .ss (zs (svSd 3 1 I) gq18 gl17), .mp b2 (mrow (VT gq37) (tk gl36)), .os (tsObs gq37 gq38 41 gl36), .obj b1 [.slice none 0 0, .slice none 0 0] 27, .sl (sv b5 (20 : Int).toNat) 34 1 (zr svRow gq44 gl43), .ss (zs (svSd 3 1 I) gq44 gl43), .os []]) [11] (by kernel_rfl) rfl (Zc.on (fun _ hw => hw.sel [0, 1, 2, 3, 4, 5, 7, 9, 10, 11] (by decide) rfl) (Zc.at1 (fun _ hw => hw)))) rfl rfl rfl (Y.loadP (i := 1) ag24 rfl rfl rfl) ?_
               refine V2.y (i := 2) (Nx2.of (Z := Cls w [] [.obj b28 [.int .i64 x27.Tx, .int .i64 x27.Kind, .int .i64 x27.Item] 37, .obj b3 (zr svRow gq18 gl17).flatten 35, .ss (zs (svSd 3 1 I) gq18 gl17), .mp b2 (mrow (VT gq37) (tk gl36)), .os (tsObs gq37 gq38 41 gl36), .obj b1 [.slice none 0 0, .slice none 0 0] 27, .sl (sv b5 (20 : Int).toNat) 34 1 (zr svRow gq44 gl43), .ss (zs (svSd 3 1 I) gq44 gl43), .os []]) [] (by kernel_rfl) rfl (Zc.on (fun _ hw => hw.sel [0, 2, 3, 4, 5, 7, 9, 10, 11] (by decide) rfl) (Zc.on (fun _ hw => hw.sel [0, 2, 3, 4, 5, 6, 7, 8, 9] (by decide) rfl) (Zc.fin (fun _ hw => hw))))) rfl rfl rfl (Y.move rfl) ?_
               refine V2.y (i := 3) (Nx2.of (Z := Cls w [] [.obj b28 [.int .i64 x27.Tx, .int .i64 x27.Kind, .int .i64 x27.Item] 37, .obj b3 (zr svRow gq18 gl17).flatten 35, .ss (zs (svSd 3 1 I) gq18 gl17), .mp b2 (mrow (VT gq37) (tk gl36)), .os (tsObs gq37 gq38 41 gl36), .obj b1 [.slice none 0 0, .slice none 0 0] 27, .sl (sv b5 (20 : Int).toNat) 34 1 (zr svRow gq44 gl43), .ss (zs (svSd 3 1 I) gq44 gl43), .os []]) [] (by kernel_rfl) rfl (Zc.on (fun _ hw => hw.sel [0, 2, 3, 4, 5, 7, 9, 10, 11] (by decide) rfl) (Zc.on (fun _ hw => hw.sel [0, 2, 3, 4, 5, 6, 7, 8, 9] (by decide) rfl) (Zc.fin (fun _ hw => hw))))) rfl rfl rfl (Y.fieldP fd37_0 rfl) ?_
               refine V2.y (i := 4) (Nx2.of (Z := Cls w [] [.obj b28 [.int .i64 x27.Tx, .int .i64 x27.Kind, .int .i64 x27.Item] 37, .obj b3 (zr svRow gq18 gl17).flatten 35, .ss (zs (svSd 3 1 I) gq18 gl17), .mp b2 (mrow (VT gq37) (tk gl36)), .os (tsObs gq37 gq38 41 gl36), .obj b1 [.slice none 0 0, .slice none 0 0] 27, .sl (sv b5 (20 : Int).toNat) 34 1 (zr svRow gq44 gl43), .ss (zs (svSd 3 1 I) gq44 gl43), .os []]) [] (by kernel_rfl) rfl (Zc.on (fun _ hw => hw.sel [0, 2, 3, 4, 5, 7, 9, 10, 11] (by decide) rfl) (Zc.on (fun _ hw => hw.sel [0, 2, 3, 4, 5, 6, 7, 8, 9] (by decide) rfl) (Zc.fin (fun _ hw => hw))))) rfl rfl rfl (Y.loadP (i := 0) ag3 rfl rfl rfl) ?_
               refine V2.m (i := 5) (V' := fun _ => pt (gq37 x27.Tx) 0) h (Nx2.of (Z := Cls w [] [.obj b28 [.int .i64 x27.Tx, .int .i64 x27.Kind, .int .i64 x27.Item] 37, .obj b3 (zr svRow gq18 gl17).flatten 35, .ss (zs (svSd 3 1 I) gq18 gl17), .mp b2 (mrow (VT gq37) (tk gl36)), .os (tsObs gq37 gq38 41 gl36), .obj b1 [.slice none 0 0, .slice none 0 0] 27, .sl (sv b5 (20 : Int).toNat) 34 1 (zr svRow gq44 gl43), .ss (zs (svSd 3 1 I) gq44 gl43), .os []]) [] (by kernel_rfl) rfl (Zc.on (fun _ hw => hw.sel [0, 2, 3, 4, 5, 7, 9, 10, 11] (by decide) rfl) (Zc.on (fun _ hw => hw.sel [0, 2, 3, 4, 5, 6, 7, 8, 9] (by decide) rfl) (Zc.fin (fun _ hw => hw))))) rfl rfl rfl (Y.tsLook (i := 3) (bs := gq37) (ks := gl36) Try.underlying33 Try.underlying3 (by kernel_rfl) rfl rfl rfl rfl) (fun x47 ex47 h => ?_)
               refine V2.nilc (i := 6) (Nx2.of (Z := Cls w [] [.obj b28 [.int .i64 x27.Tx, .int .i64 x27.Kind, .int .i64 x27.Item] 37, .obj b3 (zr svRow gq18 gl17).flatten 35, .ss (zs (svSd 3 1 I) gq18 gl17), .mp b2 (mrow (VT gq37) (tk gl36)), .os (tsObs gq37 gq38 41 gl36), .obj b1 [.slice none 0 0, .slice none 0 0] 27, .sl (sv b5 (20 : Int).toNat) 34 1 (zr svRow gq44 gl43), .ss (zs (svSd 3 1 I) gq44 gl43), .os []]) [] (by kernel_rfl) rfl (Zc.on (fun _ hw => hw.sel [0, 2, 3, 4, 5, 7, 9, 10, 11] (by decide) rfl) (Zc.on (fun _ hw => hw.sel [0, 2, 3, 4, 5, 6, 7, 8, 9] (by decide) rfl) (Zc.fin (fun _ hw => hw))))) rfl rfl rfl ?_
               refine V2.y (i := 7) (Nx2.of (Z := Cls w [] [.obj b28 [.int .i64 x27.Tx, .int .i64 x27.Kind, .int .i64 x27.Item] 37, .obj b3 (zr svRow gq18 gl17).flatten 35, .ss (zs (svSd 3 1 I) gq18 gl17), .mp b2 (mrow (VT gq37) (tk gl36)), .os (tsObs gq37 gq38 41 gl36), .obj b1 [.slice none 0 0, .slice none 0 0] 27, .sl (sv b5 (20 : Int).toNat) 34 1 (zr svRow gq44 gl43), .ss (zs (svSd 3 1 I) gq44 gl43), .os []]) [] (by kernel_rfl) rfl (Zc.on (fun _ hw => hw.sel [0, 2, 3, 4, 5, 7, 9, 10, 11] (by decide) rfl) (Zc.on (fun _ hw => hw.sel [0, 2, 3, 4, 5, 6, 7, 8, 9] (by decide) rfl) (Zc.fin (fun _ hw => hw))))) rfl rfl rfl (Y.tsLoadW (q := 4) (bs := gq37) (us := gq38) (ks := gl36) (a := x27.Tx) ag41 sz41 rfl rfl ex47) ?_
               refine V2.eff (i := 8) (by kernel_rfl) rfl ?_
               refine L.litAgg rfl Try.underlying24 eL41 rfl rfl rfl ?_
               intro b48
               refine L.nil (E.toV2 (stC [[9, 11], [11]] [Cls w [] [.sl (sv b48 1) 41 2 [[.int .i64 x27.Tx, gq38 x27.Tx]], .obj b28 [.int .i64 x27.Tx, .int .i64 x27.Kind, .int .i64 x27.Item] 37, .obj b6 [gv12, (sv b5 (20 : Int).toNat)] 27, .obj b3 (zr svRow gq18 gl17).flatten 35, .ss (zs (svSd 3 1 I) gq18 gl17), .mp b2 (mrow (VT gq37) (tk gl36)), .os (tsObs gq37 gq38 41 gl36), .any (tsRes gq23 gq38 45 2 (tsRows TGot.row gl39) (zs TTale.sds gq14 gl13)), .obj b1 [.slice none 0 0, .slice none 0 0] 27, .sl gv12 41 2 (zr TTale.rowv gq14 gl13), .sl (sv b5 (20 : Int).toNat) 34 1 (zr svRow gq44 gl43), .ss (zs (svSd 3 1 I) gq44 gl43), .os []], Cls w [] [.sl (sv b48 1) 41 2 [[.int .i64 x27.Tx, gq38 x27.Tx]], .obj b28 [.int .i64 x27.Tx, .int .i64 x27.Kind, .int .i64 x27.Item] 37, .obj b6 [gv12, (sv b5 (20 : Int).toNat)] 27, .obj b3 (zr svRow gq18 gl17).flatten 35, .ss (zs (svSd 3 1 I) gq18 gl17), .mp b2 (mrow (VT gq37) (tk gl36)), .os (tsObs gq37 gq38 41 gl36), .obj b1 [.slice none 0 0, .slice none 0 0] 27, .sl (sv b5 (20 : Int).toNat) 34 1 (zr svRow gq44 gl43), .ss (zs (svSd 3 1 I) gq44 gl43), .os []]] (Cls w [] [.sl (sv b48 1) 41 2 [[.int .i64 x27.Tx, gq38 x27.Tx]], .obj b28 [.int .i64 x27.Tx, .int .i64 x27.Kind, .int .i64 x27.Item] 37, .obj b3 (zr svRow gq18 gl17).flatten 35, .ss (zs (svSd 3 1 I) gq18 gl17), .mp b2 (mrow (VT gq37) (tk gl36)), .os (tsObs gq37 gq38 41 gl36), .obj b1 [.slice none 0 0, .slice none 0 0] 27, .sl (sv b5 (20 : Int).toNat) 34 1 (zr svRow gq44 gl43), .ss (zs (svSd 3 1 I) gq44 gl43), .os []])) 8 (by kernel_rfl) (Sc.stay (fun _ hw => hw.sel [1, 2, 3, 4, 5, 6, 7, 8, 9, 10, 11, 12] (by decide) rfl) (Sc.stay (fun _ hw => hw.sel [1, 2, 3, 4, 5, 6, 7, 8, 9, 10] (by decide) rfl) (Sc.stayD (fun _ hw => hw.sel [1, 2, 3, 4, 5, 6, 7, 8, 9] (by decide) rfl)))) (Sc.now (by kernel_rfl) (fun _ hw => hw)) ?_)
               refine V2.eff (i := 9) (by kernel_rfl) rfl ?_
               obtain ⟨l49, el49, h⟩ := bind1S h
               refine L.tsOut (i := 9) (j := 0) (q := 7) (row := TGot.row) (rw' := TTale.rowv) (sds := TTale.sds) (gh := gq14) (l := gl13) (y1 := (⟨x27.Tx, l49⟩ : TTale)) (us := gq38) (tl := gl39) (a := x27.Tx) (x := l49) h el49 rfl Try.underlying24 eL41 rfl rfl rfl rfl rfl (by decide) (by decide) rfl (by intro ho u hu; simp only [TTale.rowv, List.mem_cons, List.not_mem_nil, or_false] at hu; rcases hu with rfl | rfl <;> first | rfl | exact ho) rfl ?_
               intro v51 q52 l50 el50 h
               refine L.to (D := Cls w [] [.sl v51 41 2 (zr TTale.rowv q52 l50), .sl (sv b48 1) 41 2 [[.int .i64 x27.Tx, gq38 x27.Tx]], .obj b28 [.int .i64 x27.Tx, .int .i64 x27.Kind, .int .i64 x27.Item] 37, .obj b6 [gv12, (sv b5 (20 : Int).toNat)] 27, .obj b3 (zr svRow gq18 gl17).flatten 35, .ss (zs (svSd 3 1 I) gq18 gl17), .mp b2 (mrow (VT gq37) (tk gl36)), .os (tsObs gq37 gq38 41 gl36), .any (tsRes gq23 gq38 45 2 (tsRows TGot.row gl39) (zs TTale.sds q52 l50)), .obj b1 [.slice none 0 0, .slice none 0 0] 27, .sl (sv b5 (20 : Int).toNat) 34 1 (zr svRow gq44 gl43), .ss (zs (svSd 3 1 I) gq44 gl43), .os []]) (fun _ hw => hw) ?_
               refine L.nil (E.toV2 (stC [[11]] [Cls w [] [.sl v51 41 2 (zr TTale.rowv q52 l50), .sl (sv b48 1) 41 2 [[.int .i64 x27.Tx, gq38 x27.Tx]], .obj b28 [.int .i64 x27.Tx, .int .i64 x27.Kind, .int .i64 x27.Item] 37, .obj b6 [gv12, (sv b5 (20 : Int).toNat)] 27, .obj b3 (zr svRow gq18 gl17).flatten 35, .ss (zs (svSd 3 1 I) gq18 gl17), .mp b2 (mrow (VT gq37) (tk gl36)), .os (tsObs gq37 gq38 41 gl36), .obj b1 [.slice none 0 0, .slice none 0 0] 27, .sl (sv b5 (20 : Int).toNat) 34 1 (zr svRow gq44 gl43), .ss (zs (svSd 3 1 I) gq44 gl43), .os []]] (Cls w [] [.sl v51 41 2 (zr TTale.rowv q52 l50), .sl (sv b48 1) 41 2 [[.int .i64 x27.Tx, gq38 x27.Tx]], .obj b28 [.int .i64 x27.Tx, .int .i64 x27.Kind, .int .i64 x27.Item] 37, .obj b3 (zr svRow gq18 gl17).flatten 35, .ss (zs (svSd 3 1 I) gq18 gl17), .mp b2 (mrow (VT gq37) (tk gl36)), .os (tsObs gq37 gq38 41 gl36), .obj b1 [.slice none 0 0, .slice none 0 0] 27, .sl (sv b5 (20 : Int).toNat) 34 1 (zr svRow gq44 gl43), .ss (zs (svSd 3 1 I) gq44 gl43), .os []])) 9 (by kernel_rfl) (Sc.past rfl (Sc.stay (fun _ hw => hw.sel [1, 2, 3, 4, 5, 6, 7, 8, 9, 10, 11] (by decide) rfl) (Sc.stayD (fun _ hw => hw.sel [1, 2, 3, 4, 5, 6, 7, 8, 9, 10] (by decide) rfl)))) (Sc.now (by kernel_rfl) (fun _ hw => hw.sel [0, 1, 2, 3, 4, 5, 6, 7, 9, 10, 11, 12] (by decide) rfl)) ?_)
               refine V2.y (i := 10) (Nx2.of (Z := Cls w [] [.sl v51 41 2 (zr TTale.rowv q52 l50), .sl (sv b48 1) 41 2 [[.int .i64 x27.Tx, gq38 x27.Tx]], .obj b28 [.int .i64 x27.Tx, .int .i64 x27.Kind, .int .i64 x27.Item] 37, .obj b3 (zr svRow gq18 gl17).flatten 35, .ss (zs (svSd 3 1 I) gq18 gl17), .mp b2 (mrow (VT gq37) (tk gl36)), .os (tsObs gq37 gq38 41 gl36), .obj b1 [.slice none 0 0, .slice none 0 0] 27, .sl (sv b5 (20 : Int).toNat) 34 1 (zr svRow gq44 gl43), .ss (zs (svSd 3 1 I) gq44 gl43), .os []]) [] (by kernel_rfl) rfl (Zc.on (fun _ hw => hw.sel [0, 1, 2, 4, 5, 6, 7, 8, 9, 10, 11] (by decide) rfl) (Zc.fin (fun _ hw => hw)))) rfl rfl rfl (Y.fieldP fd27_0 rfl) ?_
               refine V2.eff (i := 11) (by kernel_rfl) rfl ?_
               refine L.storeV (i := 3) sz24 rfl rfl (fun _ hw => (As.at_ (hw.get (i := 0) rfl)).one) rfl (Nat.le_of_ble_eq_true rfl) ?_
               refine L.nil (E.toV2 (stC [] [] (Cls w [] [.sl v51 41 2 (zr TTale.rowv q52 l50), .sl (sv b48 1) 41 2 [[.int .i64 x27.Tx, gq38 x27.Tx]], .obj b28 [.int .i64 x27.Tx, .int .i64 x27.Kind, .int .i64 x27.Item] 37, .obj b3 (zr svRow gq18 gl17).flatten 35, .ss (zs (svSd 3 1 I) gq18 gl17), .mp b2 (mrow (VT gq37) (tk gl36)), .os (tsObs gq37 gq38 41 gl36), .obj b1 [.slice none 0 0, .slice none 0 0] 27, .sl (sv b5 (20 : Int).toNat) 34 1 (zr svRow gq44 gl43), .ss (zs (svSd 3 1 I) gq44 gl43), .os []])) 11 (by kernel_rfl) (Sc.past rfl (Sc.stayD (fun _ hw => hw))) (Sc.atD (fun _ hw => hw.sel [0, 1, 2, 4, 5, 6, 7, 9, 10, 11, 12] (by decide) rfl)) ?_)
               refine V2.done (by kernel_rfl) ?_
               exact E.blockN (E.blockN (E.joinJ ⟨v51, l50, q52, gl43, gq44, gl17, gq18, gl36, gq37, gq38, gl39, gq23, rfl, rfl, h⟩ ⟨rfl, rfl, rfl, rfl, rfl, rfl, rfl, rfl, trivial⟩ (fun _ hw => hw.sel [3, 4, 5, 6, 7, 8, 9, 0, 10, 11, 12] (by decide) rfl)))
           ·
            replace h := iteT h
            refine W.condT rfl ?_
            refine W.drawn2 (k := 12) (stC [[9, 11], [11]] [Cls w [] [.obj b28 [.int .i64 x27.Tx, .int .i64 x27.Kind, .int .i64 x27.Item] 37, .obj b6 [gv12, (sv b5 (20 : Int).toNat)] 27, .obj b3 (zr svRow gq18 gl17).flatten 35, .ss (zs (svSd 3 1 I) gq18 gl17), .mp b2 (mrow (VT gq37) (tk gl36)), .os (tsObs gq37 gq38 41 gl36), .any (tsRes gq23 gq38 45 2 (tsRows TGot.row gl39) (zs TTale.sds gq14 gl13)), .obj b1 [.slice none 0 0, .slice none 0 0] 27, .sl gv12 41 2 (zr TTale.rowv gq14 gl13), .sl (sv b5 (20 : Int).toNat) 34 1 (zr svRow gq16 gl15), .ss (zs (svSd 3 1 I) gq16 gl15), .os []], Cls w [] [.obj b28 [.int .i64 x27.Tx, .int .i64 x27.Kind, .int .i64 x27.Item] 37, .obj b6 [gv12, (sv b5 (20 : Int).toNat)] 27, .obj b3 (zr svRow gq18 gl17).flatten 35, .mp b2 (mrow (VT gq37) (tk gl36)), .os (tsObs gq37 gq38 41 gl36), .any (tsRes gq23 gq38 45 2 (tsRows TGot.row gl39) (zs TTale.sds gq14 gl13)), .obj b1 [.slice none 0 0, .slice none 0 0] 27, .sl gv12 41 2 (zr TTale.rowv gq14 gl13), .sl (sv b5 (20 : Int).toNat) 34 1 (zr svRow gq16 gl15), .ss (zs (svSd 3 1 I) gq16 gl15), .os []]] (Cls w [] [.obj b28 [.int .i64 x27.Tx, .int .i64 x27.Kind, .int .i64 x27.Item] 37, .obj b6 [gv12, (sv b5 (20 : Int).toNat)] 27, .mp b2 (mrow (VT gq37) (tk gl36)), .os (tsObs gq37 gq38 41 gl36), .any (tsRes gq23 gq38 45 2 (tsRows TGot.row gl39) (zs TTale.sds gq14 gl13)), .obj b1 [.slice none 0 0, .slice none 0 0] 27, .sl gv12 41 2 (zr TTale.rowv gq14 gl13), .sl (sv b5 (20 : Int).toNat) 34 1 (zr svRow gq16 gl15), .ss (zs (svSd 3 1 I) gq16 gl15), .os []])) rfl mixed (fun _ hw => hw.drew) (Sc.now (by kernel_rfl) (fun _ hw => hw)) ?_
            refine V2.y (i := 0) (Nx2.of (Z := Cls w [] [.obj b28 [.int .i64 x27.Tx, .int .i64 x27.Kind, .int .i64 x27.Item] 37, .obj b6 [gv12, (sv b5 (20 : Int).toNat)] 27, .mp b2 (mrow (VT gq37) (tk gl36)), .os (tsObs gq37 gq38 41 gl36), .any (tsRes gq23 gq38 45 2 (tsRows TGot.row gl39) (zs TTale.sds gq14 gl13)), .obj b1 [.slice none 0 0, .slice none 0 0] 27, .sl gv12 41 2 (zr TTale.rowv gq14 gl13), .sl (sv b5 (20 : Int).toNat) 34 1 (zr svRow gq16 gl15), .ss (zs (svSd 3 1 I) gq16 gl15), .os []]) [] (by kernel_rfl) rfl (Zc.on (fun _ hw => hw.sel [0, 1, 4, 5, 6, 7, 8, 9, 10, 11] (by decide) rfl) (Zc.on (fun _ hw => hw.sel [0, 1, 3, 4, 5, 6, 7, 8, 9, 10] (by decide) rfl) (Zc.fin (fun _ hw => hw))))) rfl rfl rfl (Y.fieldP fd37_0 rfl) ?_
            refine V2.y (i := 1) (Nx2.of (Z := Cls w [] [.obj b28 [.int .i64 x27.Tx, .int .i64 x27.Kind, .int .i64 x27.Item] 37, .obj b6 [gv12, (sv b5 (20 : Int).toNat)] 27, .mp b2 (mrow (VT gq37) (tk gl36)), .os (tsObs gq37 gq38 41 gl36), .any (tsRes gq23 gq38 45 2 (tsRows TGot.row gl39) (zs TTale.sds gq14 gl13)), .obj b1 [.slice none 0 0, .slice none 0 0] 27, .sl gv12 41 2 (zr TTale.rowv gq14 gl13), .sl (sv b5 (20 : Int).toNat) 34 1 (zr svRow gq16 gl15), .ss (zs (svSd 3 1 I) gq16 gl15), .os []]) [] (by kernel_rfl) rfl (Zc.on (fun _ hw => hw.sel [0, 1, 4, 5, 6, 7, 8, 9, 10, 11] (by decide) rfl) (Zc.on (fun _ hw => hw.sel [0, 1, 3, 4, 5, 6, 7, 8, 9, 10] (by decide) rfl) (Zc.fin (fun _ hw => hw))))) rfl rfl rfl (Y.loadP (i := 0) ag3 rfl rfl rfl) ?_
            refine V2.y (i := 2) (Nx2.of (Z := Cls w [] [.obj b28 [.int .i64 x27.Tx, .int .i64 x27.Kind, .int .i64 x27.Item] 37, .obj b6 [gv12, (sv b5 (20 : Int).toNat)] 27, .mp b2 (mrow (VT gq37) (tk gl36)), .os (tsObs gq37 gq38 41 gl36), .any (tsRes gq23 gq38 45 2 (tsRows TGot.row gl39) (zs TTale.sds gq14 gl13)), .obj b1 [.slice none 0 0, .slice none 0 0] 27, .sl gv12 41 2 (zr TTale.rowv gq14 gl13), .sl (sv b5 (20 : Int).toNat) 34 1 (zr svRow gq16 gl15), .ss (zs (svSd 3 1 I) gq16 gl15), .os []]) [] (by kernel_rfl) rfl (Zc.on (fun _ hw => hw.sel [0, 1, 4, 5, 6, 7, 8, 9, 10, 11] (by decide) rfl) (Zc.on (fun _ hw => hw.sel [0, 1, 3, 4, 5, 6, 7, 8, 9, 10] (by decide) rfl) (Zc.fin (fun _ hw => hw))))) rfl rfl rfl (Y.fieldP fd37_0 rfl) ?_
            refine V2.y (i := 3) (Nx2.of (Z := Cls w [] [.obj b28 [.int .i64 x27.Tx, .int .i64 x27.Kind, .int .i64 x27.Item] 37, .obj b6 [gv12, (sv b5 (20 : Int).toNat)] 27, .mp b2 (mrow (VT gq37) (tk gl36)), .os (tsObs gq37 gq38 41 gl36), .any (tsRes gq23 gq38 45 2 (tsRows TGot.row gl39) (zs TTale.sds gq14 gl13)), .obj b1 [.slice none 0 0, .slice none 0 0] 27, .sl gv12 41 2 (zr TTale.rowv gq14 gl13), .sl (sv b5 (20 : Int).toNat) 34 1 (zr svRow gq16 gl15), .ss (zs (svSd 3 1 I) gq16 gl15), .os []]) [] (by kernel_rfl) rfl (Zc.on (fun _ hw => hw.sel [0, 1, 4, 5, 6, 7, 8, 9, 10, 11] (by decide) rfl) (Zc.on (fun _ hw => hw.sel [0, 1, 3, 4, 5, 6, 7, 8, 9, 10] (by decide) rfl) (Zc.fin (fun _ hw => hw))))) rfl rfl rfl (Y.loadP (i := 0) ag3 rfl rfl rfl) ?_
            refine V2.m (i := 4) (V' := fun _ => pt b3 (0 + x27.Tx.toNat * 1)) h (Nx2.of (Z := Cls w [] [.obj b28 [.int .i64 x27.Tx, .int .i64 x27.Kind, .int .i64 x27.Item] 37, .obj b6 [gv12, (sv b5 (20 : Int).toNat)] 27, .obj b3 (zr svRow gq18 gl17).flatten 35, .mp b2 (mrow (VT gq37) (tk gl36)), .os (tsObs gq37 gq38 41 gl36), .any (tsRes gq23 gq38 45 2 (tsRows TGot.row gl39) (zs TTale.sds gq14 gl13)), .obj b1 [.slice none 0 0, .slice none 0 0] 27, .sl gv12 41 2 (zr TTale.rowv gq14 gl13), .sl (sv b5 (20 : Int).toNat) 34 1 (zr svRow gq16 gl15), .ss (zs (svSd 3 1 I) gq16 gl15), .os []]) [11] (by kernel_rfl) rfl (Zc.on (fun _ hw => hw.sel [0, 1, 2, 4, 5, 6, 7, 8, 9, 10, 11] (by decide) rfl) (Zc.at1 (fun _ hw => hw)))) rfl rfl rfl (Y.indexAM (l := gl17) Try.underlying35 sz34 rfl rfl) (fun x103 ex103 h => ?_)
            refine V2.y (i := 5) (Nx2.of (Z := Cls w [] [.obj b28 [.int .i64 x27.Tx, .int .i64 x27.Kind, .int .i64 x27.Item] 37, .obj b6 [gv12, (sv b5 (20 : Int).toNat)] 27, .obj b3 (zr svRow gq18 gl17).flatten 35, .mp b2 (mrow (VT gq37) (tk gl36)), .os (tsObs gq37 gq38 41 gl36), .any (tsRes gq23 gq38 45 2 (tsRows TGot.row gl39) (zs TTale.sds gq14 gl13)), .obj b1 [.slice none 0 0, .slice none 0 0] 27, .sl gv12 41 2 (zr TTale.rowv gq14 gl13), .sl (sv b5 (20 : Int).toNat) 34 1 (zr svRow gq16 gl15), .ss (zs (svSd 3 1 I) gq16 gl15), .os []]) [11] (by kernel_rfl) rfl (Zc.on (fun _ hw => hw.sel [0, 1, 2, 4, 5, 6, 7, 8, 9, 10, 11] (by decide) rfl) (Zc.at1 (fun _ hw => hw)))) rfl rfl rfl (Y.loadZ (q := 2) (row := svRow) (vs := gq18) (j := 0) (pv := gv (gq18 x27.Tx.toNat) 0) ag34 rfl rfl rfl (fun _ _ => rfl) (idxA_idx ex103) rfl) ?_
            refine V2.y (i := 6) (Nx2.of (Z := Cls w [] [.obj b28 [.int .i64 x27.Tx, .int .i64 x27.Kind, .int .i64 x27.Item] 37, .obj b6 [gv12, (sv b5 (20 : Int).toNat)] 27, .mp b2 (mrow (VT gq37) (tk gl36)), .os (tsObs gq37 gq38 41 gl36), .any (tsRes gq23 gq38 45 2 (tsRows TGot.row gl39) (zs TTale.sds gq14 gl13)), .obj b1 [.slice none 0 0, .slice none 0 0] 27, .sl gv12 41 2 (zr TTale.rowv gq14 gl13), .sl (sv b5 (20 : Int).toNat) 34 1 (zr svRow gq16 gl15), .ss (zs (svSd 3 1 I) gq16 gl15), .os []]) [] (by kernel_rfl) rfl (Zc.on (fun _ hw => hw.sel [0, 1, 4, 5, 6, 7, 8, 9, 10, 11] (by decide) rfl) (Zc.on (fun _ hw => hw.sel [0, 1, 3, 4, 5, 6, 7, 8, 9, 10] (by decide) rfl) (Zc.fin (fun _ hw => hw))))) rfl rfl rfl (Y.fieldP fd37_2 rfl) ?_
            refine V2.y (i := 7) (Nx2.of (Z := Cls w [] [.obj b28 [.int .i64 x27.Tx, .int .i64 x27.Kind, .int .i64 x27.Item] 37, .obj b6 [gv12, (sv b5 (20 : Int).toNat)] 27, .mp b2 (mrow (VT gq37) (tk gl36)), .os (tsObs gq37 gq38 41 gl36), .any (tsRes gq23 gq38 45 2 (tsRows TGot.row gl39) (zs TTale.sds gq14 gl13)), .obj b1 [.slice none 0 0, .slice none 0 0] 27, .sl gv12 41 2 (zr TTale.rowv gq14 gl13), .sl (sv b5 (20 : Int).toNat) 34 1 (zr svRow gq16 gl15), .ss (zs (svSd 3 1 I) gq16 gl15), .os []]) [] (by kernel_rfl) rfl (Zc.on (fun _ hw => hw.sel [0, 1, 4, 5, 6, 7, 8, 9, 10, 11] (by decide) rfl) (Zc.on (fun _ hw => hw.sel [0, 1, 3, 4, 5, 6, 7, 8, 9, 10] (by decide) rfl) (Zc.fin (fun _ hw => hw))))) rfl rfl rfl (Y.loadP (i := 0) ag3 rfl rfl rfl) ?_
            refine V2.eff (i := 8) (by kernel_rfl) rfl ?_
            refine L.litOne rfl Try.underlying34 eL3 rfl rfl ?_
            intro b104
            refine L.nil (E.toV2 (stC [[9, 11], [11]] [Cls w [] [.sl (sv b104 1) 3 1 (([x27.Item]).map I), .obj b28 [.int .i64 x27.Tx, .int .i64 x27.Kind, .int .i64 x27.Item] 37, .obj b6 [gv12, (sv b5 (20 : Int).toNat)] 27, .obj b3 (zr svRow gq18 gl17).flatten 35, .ss (zs (svSd 3 1 I) gq18 gl17), .mp b2 (mrow (VT gq37) (tk gl36)), .os (tsObs gq37 gq38 41 gl36), .any (tsRes gq23 gq38 45 2 (tsRows TGot.row gl39) (zs TTale.sds gq14 gl13)), .obj b1 [.slice none 0 0, .slice none 0 0] 27, .sl gv12 41 2 (zr TTale.rowv gq14 gl13), .sl (sv b5 (20 : Int).toNat) 34 1 (zr svRow gq16 gl15), .ss (zs (svSd 3 1 I) gq16 gl15), .os []], Cls w [] [.sl (sv b104 1) 3 1 (([x27.Item]).map I), .obj b28 [.int .i64 x27.Tx, .int .i64 x27.Kind, .int .i64 x27.Item] 37, .obj b6 [gv12, (sv b5 (20 : Int).toNat)] 27, .obj b3 (zr svRow gq18 gl17).flatten 35, .mp b2 (mrow (VT gq37) (tk gl36)), .os (tsObs gq37 gq38 41 gl36), .any (tsRes gq23 gq38 45 2 (tsRows TGot.row gl39) (zs TTale.sds gq14 gl13)), .obj b1 [.slice none 0 0, .slice none 0 0] 27, .sl gv12 41 2 (zr TTale.rowv gq14 gl13), .sl (sv b5 (20 : Int).toNat) 34 1 (zr svRow gq16 gl15), .ss (zs (svSd 3 1 I) gq16 gl15), .os []]] (Cls w [] [.sl (sv b104 1) 3 1 (([x27.Item]).map I), .obj b28 [.int .i64 x27.Tx, .int .i64 x27.Kind, .int .i64 x27.Item] 37, .obj b6 [gv12, (sv b5 (20 : Int).toNat)] 27, .mp b2 (mrow (VT gq37) (tk gl36)), .os (tsObs gq37 gq38 41 gl36), .any (tsRes gq23 gq38 45 2 (tsRows TGot.row gl39) (zs TTale.sds gq14 gl13)), .obj b1 [.slice none 0 0, .slice none 0 0] 27, .sl gv12 41 2 (zr TTale.rowv gq14 gl13), .sl (sv b5 (20 : Int).toNat) 34 1 (zr svRow gq16 gl15), .ss (zs (svSd 3 1 I) gq16 gl15), .os []])) 8 (by kernel_rfl) (Sc.stay (fun _ hw => hw.sel [1, 2, 3, 4, 5, 6, 7, 8, 9, 10, 11, 12] (by decide) rfl) (Sc.stay (fun _ hw => hw.sel [1, 2, 3, 4, 5, 6, 7, 8, 9, 10, 11] (by decide) rfl) (Sc.stayD (fun _ hw => hw.sel [1, 2, 3, 4, 5, 6, 7, 8, 9, 10] (by decide) rfl)))) (Sc.now (by kernel_rfl) (fun _ hw => hw)) ?_)
            refine V2.eff (i := 9) (by kernel_rfl) rfl ?_
            refine L.ssOut (sds := (svSd 3 1 I)) (vs := gq18) (s := 4) (j := 0) (c := 1) rfl (fun _ _ => rfl) (idxA_idx ex103) rfl ?_
            refine L.appM (i := 0) (g := I) (l := x103) (more := [x27.Item]) h rfl Try.underlying34 eL3 rfl rfl rfl (fun w hw => As.at_ (hw.get (i := 1) rfl)) (plain_ints _) rfl ?_
            intro v105 l106 el106 h
            refine L.nil (E.toV2 (stC [[11]] [Cls w [] [.sl v105 3 1 (l106.map I), .sl (sv b104 1) 3 1 (([x27.Item]).map I), .obj b28 [.int .i64 x27.Tx, .int .i64 x27.Kind, .int .i64 x27.Item] 37, .obj b6 [gv12, (sv b5 (20 : Int).toNat)] 27, .obj b3 (zr svRow gq18 gl17).flatten 35, .mp b2 (mrow (VT gq37) (tk gl36)), .os (tsObs gq37 gq38 41 gl36), .any (tsRes gq23 gq38 45 2 (tsRows TGot.row gl39) (zs TTale.sds gq14 gl13)), .obj b1 [.slice none 0 0, .slice none 0 0] 27, .sl gv12 41 2 (zr TTale.rowv gq14 gl13), .sl (sv b5 (20 : Int).toNat) 34 1 (zr svRow gq16 gl15), .ss (zs (svSd 3 1 I) gq16 gl15), .os []]] (Cls w [] [.sl (sv b104 1) 3 1 (([x27.Item]).map I), .obj b28 [.int .i64 x27.Tx, .int .i64 x27.Kind, .int .i64 x27.Item] 37, .obj b6 [gv12, (sv b5 (20 : Int).toNat)] 27, .mp b2 (mrow (VT gq37) (tk gl36)), .os (tsObs gq37 gq38 41 gl36), .any (tsRes gq23 gq38 45 2 (tsRows TGot.row gl39) (zs TTale.sds gq14 gl13)), .obj b1 [.slice none 0 0, .slice none 0 0] 27, .sl gv12 41 2 (zr TTale.rowv gq14 gl13), .sl (sv b5 (20 : Int).toNat) 34 1 (zr svRow gq16 gl15), .ss (zs (svSd 3 1 I) gq16 gl15), .os []])) 9 (by kernel_rfl) (Sc.past rfl (Sc.stay (fun _ hw => hw.sel [1, 2, 3, 4, 5, 6, 7, 8, 9, 10, 11, 12] (by decide) rfl) (Sc.stayD (fun _ hw => hw)))) (Sc.now (by kernel_rfl) (fun _ hw => hw.sel [0, 1, 2, 3, 4, 6, 7, 8, 9, 10, 11, 12, 13] (by decide) rfl)) ?_)
            refine V2.m (i := 10) (V' := fun _ => pt b3 (0 + x27.Tx.toNat * 1)) h (Nx2.of (Z := Cls w [] [.sl v105 3 1 (l106.map I), .sl (sv b104 1) 3 1 (([x27.Item]).map I), .obj b28 [.int .i64 x27.Tx, .int .i64 x27.Kind, .int .i64 x27.Item] 37, .obj b6 [gv12, (sv b5 (20 : Int).toNat)] 27, .obj b3 (zr svRow gq18 gl17).flatten 35, .mp b2 (mrow (VT gq37) (tk gl36)), .os (tsObs gq37 gq38 41 gl36), .any (tsRes gq23 gq38 45 2 (tsRows TGot.row gl39) (zs TTale.sds gq14 gl13)), .obj b1 [.slice none 0 0, .slice none 0 0] 27, .sl gv12 41 2 (zr TTale.rowv gq14 gl13), .sl (sv b5 (20 : Int).toNat) 34 1 (zr svRow gq16 gl15), .ss (zs (svSd 3 1 I) gq16 gl15), .os []]) [11] (by kernel_rfl) rfl (Zc.at1 (fun _ hw => hw))) rfl rfl rfl (Y.indexAM (l := gl17) Try.underlying35 sz34 rfl rfl) (fun x107 ex107 h => ?_)
            refine V2.eff (i := 11) (by kernel_rfl) rfl ?_
            refine L.storeZS (row := svRow) (sds := (svSd 3 1 I)) (vs := gq18) (q := 4) (p := 0) (s := 5) (c := 1) (jj := 0) (u1 := l106) (v1 := [v105]) (j := 0) h sz34 rfl rfl rfl rfl rfl rfl (.inr rfl) (fun _ _ => rfl) (fun _ _ => rfl) (idxA_idx ex107) rfl rfl rfl rfl ?_
            intro l108 q109 el108 h
            refine L.nil (E.toV2 (stC [] [] (Cls w [] [.sl (sv b104 1) 3 1 (([x27.Item]).map I), .obj b28 [.int .i64 x27.Tx, .int .i64 x27.Kind, .int .i64 x27.Item] 37, .obj b6 [gv12, (sv b5 (20 : Int).toNat)] 27, .mp b2 (mrow (VT gq37) (tk gl36)), .os (tsObs gq37 gq38 41 gl36), .any (tsRes gq23 gq38 45 2 (tsRows TGot.row gl39) (zs TTale.sds gq14 gl13)), .obj b1 [.slice none 0 0, .slice none 0 0] 27, .sl gv12 41 2 (zr TTale.rowv gq14 gl13), .sl (sv b5 (20 : Int).toNat) 34 1 (zr svRow gq16 gl15), .ss (zs (svSd 3 1 I) gq16 gl15), .os []])) 11 (by kernel_rfl) (Sc.past rfl (Sc.stayD (fun _ hw => hw))) (Sc.atD (fun _ hw => hw.sel [0, 1, 2, 5, 6, 7, 8, 9, 10, 11, 12] (by decide) rfl)) ?_)
            refine V2.done (by kernel_rfl) ?_
            exact E.blockN (E.blockN (E.joinJ ⟨gv12, gl13, gq14, gl15, gq16, l108, q109, gl36, gq37, gq38, gl39, gq23, rfl, rfl, h⟩ ⟨rfl, rfl, rfl, rfl, rfl, rfl, rfl, rfl, trivial⟩ (fun _ hw => hw.sel [2, 3, 4, 5, 6, 7, 8, 9, 10, 11, 12] (by decide) rfl)))
         ·
          replace h := iteT h
          refine W.condT rfl ?_
          refine W.drawn2 (k := 24) (stC [[20, 23], [23]] [Cls w [] [.obj b28 [.int .i64 x27.Tx, .int .i64 x27.Kind, .int .i64 x27.Item] 37, .obj b6 [gv12, (sv b5 (20 : Int).toNat)] 27, .obj b3 (zr svRow gq18 gl17).flatten 35, .ss (zs (svSd 3 1 I) gq18 gl17), .mp b2 (mrow (VT gq37) (tk gl36)), .os (tsObs gq37 gq38 41 gl36), .any (tsRes gq23 gq38 45 2 (tsRows TGot.row gl39) (zs TTale.sds gq14 gl13)), .obj b1 [.slice none 0 0, .slice none 0 0] 27, .sl gv12 41 2 (zr TTale.rowv gq14 gl13), .sl (sv b5 (20 : Int).toNat) 34 1 (zr svRow gq16 gl15), .ss (zs (svSd 3 1 I) gq16 gl15), .os []], Cls w [] [.obj b28 [.int .i64 x27.Tx, .int .i64 x27.Kind, .int .i64 x27.Item] 37, .obj b6 [gv12, (sv b5 (20 : Int).toNat)] 27, .obj b3 (zr svRow gq18 gl17).flatten 35, .ss (zs (svSd 3 1 I) gq18 gl17), .mp b2 (mrow (VT gq37) (tk gl36)), .os (tsObs gq37 gq38 41 gl36), .obj b1 [.slice none 0 0, .slice none 0 0] 27, .sl gv12 41 2 (zr TTale.rowv gq14 gl13), .sl (sv b5 (20 : Int).toNat) 34 1 (zr svRow gq16 gl15), .ss (zs (svSd 3 1 I) gq16 gl15), .os []]] (Cls w [] [.obj b28 [.int .i64 x27.Tx, .int .i64 x27.Kind, .int .i64 x27.Item] 37, .obj b6 [gv12, (sv b5 (20 : Int).toNat)] 27, .obj b3 (zr svRow gq18 gl17).flatten 35, .ss (zs (svSd 3 1 I) gq18 gl17), .mp b2 (mrow (VT gq37) (tk gl36)), .obj b1 [.slice none 0 0, .slice none 0 0] 27, .sl gv12 41 2 (zr TTale.rowv gq14 gl13), .sl (sv b5 (20 : Int).toNat) 34 1 (zr svRow gq16 gl15), .ss (zs (svSd 3 1 I) gq16 gl15), .os []])) rfl mixed (fun _ hw => hw.drew) (Sc.now (by kernel_rfl) (fun _ hw => hw)) ?_
          refine V2.y (i := 0) (Nx2.of (Z := Cls w [] [.obj b28 [.int .i64 x27.Tx, .int .i64 x27.Kind, .int .i64 x27.Item] 37, .obj b6 [gv12, (sv b5 (20 : Int).toNat)] 27, .obj b3 (zr svRow gq18 gl17).flatten 35, .ss (zs (svSd 3 1 I) gq18 gl17), .mp b2 (mrow (VT gq37) (tk gl36)), .obj b1 [.slice none 0 0, .slice none 0 0] 27, .sl gv12 41 2 (zr TTale.rowv gq14 gl13), .sl (sv b5 (20 : Int).toNat) 34 1 (zr svRow gq16 gl15), .ss (zs (svSd 3 1 I) gq16 gl15), .os []]) [] (by kernel_rfl) rfl (Zc.on (fun _ hw => hw.sel [0, 1, 2, 3, 4, 7, 8, 9, 10, 11] (by decide) rfl) (Zc.on (fun _ hw => hw.sel [0, 1, 2, 3, 4, 6, 7, 8, 9, 10] (by decide) rfl) (Zc.fin (fun _ hw => hw))))) rfl rfl rfl (Y.move rfl) ?_
          refine V2.y (i := 1) (Nx2.of (Z := Cls w [] [.obj b28 [.int .i64 x27.Tx, .int .i64 x27.Kind, .int .i64 x27.Item] 37, .obj b6 [gv12, (sv b5 (20 : Int).toNat)] 27, .obj b3 (zr svRow gq18 gl17).flatten 35, .ss (zs (svSd 3 1 I) gq18 gl17), .mp b2 (mrow (VT gq37) (tk gl36)), .obj b1 [.slice none 0 0, .slice none 0 0] 27, .sl gv12 41 2 (zr TTale.rowv gq14 gl13), .sl (sv b5 (20 : Int).toNat) 34 1 (zr svRow gq16 gl15), .ss (zs (svSd 3 1 I) gq16 gl15), .os []]) [] (by kernel_rfl) rfl (Zc.on (fun _ hw => hw.sel [0, 1, 2, 3, 4, 7, 8, 9, 10, 11] (by decide) rfl) (Zc.on (fun _ hw => hw.sel [0, 1, 2, 3, 4, 6, 7, 8, 9, 10] (by decide) rfl) (Zc.fin (fun _ hw => hw))))) rfl rfl rfl (Y.fieldP fd37_0 rfl) ?_
          refine V2.y (i := 2) (Nx2.of (Z := Cls w [] [.obj b28 [.int .i64 x27.Tx, .int .i64 x27.Kind, .int .i64 x27.Item] 37, .obj b6 [gv12, (sv b5 (20 : Int).toNat)] 27, .obj b3 (zr svRow gq18 gl17).flatten 35, .ss (zs (svSd 3 1 I) gq18 gl17), .mp b2 (mrow (VT gq37) (tk gl36)), .obj b1 [.slice none 0 0, .slice none 0 0] 27, .sl gv12 41 2 (zr TTale.rowv gq14 gl13), .sl (sv b5 (20 : Int).toNat) 34 1 (zr svRow gq16 gl15), .ss (zs (svSd 3 1 I) gq16 gl15), .os []]) [] (by kernel_rfl) rfl (Zc.on (fun _ hw => hw.sel [0, 1, 2, 3, 4, 7, 8, 9, 10, 11] (by decide) rfl) (Zc.on (fun _ hw => hw.sel [0, 1, 2, 3, 4, 6, 7, 8, 9, 10] (by decide) rfl) (Zc.fin (fun _ hw => hw))))) rfl rfl rfl (Y.loadP (i := 0) ag3 rfl rfl rfl) ?_
          refine V2.m (i := 3) (V' := fun _ => pt (gq37 x27.Tx) 0) h (Nx2.of (Z := Cls w [] [.obj b28 [.int .i64 x27.Tx, .int .i64 x27.Kind, .int .i64 x27.Item] 37, .obj b6 [gv12, (sv b5 (20 : Int).toNat)] 27, .obj b3 (zr svRow gq18 gl17).flatten 35, .ss (zs (svSd 3 1 I) gq18 gl17), .mp b2 (mrow (VT gq37) (tk gl36)), .obj b1 [.slice none 0 0, .slice none 0 0] 27, .sl gv12 41 2 (zr TTale.rowv gq14 gl13), .sl (sv b5 (20 : Int).toNat) 34 1 (zr svRow gq16 gl15), .ss (zs (svSd 3 1 I) gq16 gl15), .os []]) [] (by kernel_rfl) rfl (Zc.on (fun _ hw => hw.sel [0, 1, 2, 3, 4, 7, 8, 9, 10, 11] (by decide) rfl) (Zc.on (fun _ hw => hw.sel [0, 1, 2, 3, 4, 6, 7, 8, 9, 10] (by decide) rfl) (Zc.fin (fun _ hw => hw))))) rfl rfl rfl (Y.tsLook (i := 4) (bs := gq37) (ks := gl36) Try.underlying33 Try.underlying3 (by kernel_rfl) rfl rfl rfl rfl) (fun x130 ex130 h => ?_)
          refine V2.y (i := 4) (Nx2.of (Z := Cls w [] [.obj b28 [.int .i64 x27.Tx, .int .i64 x27.Kind, .int .i64 x27.Item] 37, .obj b6 [gv12, (sv b5 (20 : Int).toNat)] 27, .obj b3 (zr svRow gq18 gl17).flatten 35, .ss (zs (svSd 3 1 I) gq18 gl17), .mp b2 (mrow (VT gq37) (tk gl36)), .obj b1 [.slice none 0 0, .slice none 0 0] 27, .sl gv12 41 2 (zr TTale.rowv gq14 gl13), .sl (sv b5 (20 : Int).toNat) 34 1 (zr svRow gq16 gl15), .ss (zs (svSd 3 1 I) gq16 gl15), .os []]) [] (by kernel_rfl) rfl (Zc.on (fun _ hw => hw.sel [0, 1, 2, 3, 4, 7, 8, 9, 10, 11] (by decide) rfl) (Zc.on (fun _ hw => hw.sel [0, 1, 2, 3, 4, 6, 7, 8, 9, 10] (by decide) rfl) (Zc.fin (fun _ hw => hw))))) rfl rfl rfl (Y.move rfl) ?_
          refine V2.y (i := 5) (Nx2.of (Z := Cls w [] [.obj b28 [.int .i64 x27.Tx, .int .i64 x27.Kind, .int .i64 x27.Item] 37, .obj b6 [gv12, (sv b5 (20 : Int).toNat)] 27, .obj b3 (zr svRow gq18 gl17).flatten 35, .ss (zs (svSd 3 1 I) gq18 gl17), .mp b2 (mrow (VT gq37) (tk gl36)), .obj b1 [.slice none 0 0, .slice none 0 0] 27, .sl gv12 41 2 (zr TTale.rowv gq14 gl13), .sl (sv b5 (20 : Int).toNat) 34 1 (zr svRow gq16 gl15), .ss (zs (svSd 3 1 I) gq16 gl15), .os []]) [] (by kernel_rfl) rfl (Zc.on (fun _ hw => hw.sel [0, 1, 2, 3, 4, 7, 8, 9, 10, 11] (by decide) rfl) (Zc.on (fun _ hw => hw.sel [0, 1, 2, 3, 4, 6, 7, 8, 9, 10] (by decide) rfl) (Zc.fin (fun _ hw => hw))))) rfl rfl rfl (Y.fieldP fd37_0 rfl) ?_
          refine V2.y (i := 6) (Nx2.of (Z := Cls w [] [.obj b28 [.int .i64 x27.Tx, .int .i64 x27.Kind, .int .i64 x27.Item] 37, .obj b6 [gv12, (sv b5 (20 : Int).toNat)] 27, .obj b3 (zr svRow gq18 gl17).flatten 35, .ss (zs (svSd 3 1 I) gq18 gl17), .mp b2 (mrow (VT gq37) (tk gl36)), .obj b1 [.slice none 0 0, .slice none 0 0] 27, .sl gv12 41 2 (zr TTale.rowv gq14 gl13), .sl (sv b5 (20 : Int).toNat) 34 1 (zr svRow gq16 gl15), .ss (zs (svSd 3 1 I) gq16 gl15), .os []]) [] (by kernel_rfl) rfl (Zc.on (fun _ hw => hw.sel [0, 1, 2, 3, 4, 7, 8, 9, 10, 11] (by decide) rfl) (Zc.on (fun _ hw => hw.sel [0, 1, 2, 3, 4, 6, 7, 8, 9, 10] (by decide) rfl) (Zc.fin (fun _ hw => hw))))) rfl rfl rfl (Y.loadP (i := 0) ag3 rfl rfl rfl) ?_
          refine V2.m (i := 7) (V' := fun _ => pt (gq37 x27.Tx) 0) h (Nx2.of (Z := Cls w [] [.obj b28 [.int .i64 x27.Tx, .int .i64 x27.Kind, .int .i64 x27.Item] 37, .obj b6 [gv12, (sv b5 (20 : Int).toNat)] 27, .obj b3 (zr svRow gq18 gl17).flatten 35, .ss (zs (svSd 3 1 I) gq18 gl17), .mp b2 (mrow (VT gq37) (tk gl36)), .obj b1 [.slice none 0 0, .slice none 0 0] 27, .sl gv12 41 2 (zr TTale.rowv gq14 gl13), .sl (sv b5 (20 : Int).toNat) 34 1 (zr svRow gq16 gl15), .ss (zs (svSd 3 1 I) gq16 gl15), .os []]) [] (by kernel_rfl) rfl (Zc.on (fun _ hw => hw.sel [0, 1, 2, 3, 4, 7, 8, 9, 10, 11] (by decide) rfl) (Zc.on (fun _ hw => hw.sel [0, 1, 2, 3, 4, 6, 7, 8, 9, 10] (by decide) rfl) (Zc.fin (fun _ hw => hw))))) rfl rfl rfl (Y.tsLook (i := 4) (bs := gq37) (ks := gl36) Try.underlying33 Try.underlying3 (by kernel_rfl) rfl rfl rfl rfl) (fun x131 ex131 h => ?_)
          refine V2.nilc (i := 8) (Nx2.of (Z := Cls w [] [.obj b28 [.int .i64 x27.Tx, .int .i64 x27.Kind, .int .i64 x27.Item] 37, .obj b6 [gv12, (sv b5 (20 : Int).toNat)] 27, .obj b3 (zr svRow gq18 gl17).flatten 35, .ss (zs (svSd 3 1 I) gq18 gl17), .mp b2 (mrow (VT gq37) (tk gl36)), .obj b1 [.slice none 0 0, .slice none 0 0] 27, .sl gv12 41 2 (zr TTale.rowv gq14 gl13), .sl (sv b5 (20 : Int).toNat) 34 1 (zr svRow gq16 gl15), .ss (zs (svSd 3 1 I) gq16 gl15), .os []]) [] (by kernel_rfl) rfl (Zc.on (fun _ hw => hw.sel [0, 1, 2, 3, 4, 7, 8, 9, 10, 11] (by decide) rfl) (Zc.on (fun _ hw => hw.sel [0, 1, 2, 3, 4, 6, 7, 8, 9, 10] (by decide) rfl) (Zc.fin (fun _ hw => hw))))) rfl rfl rfl ?_
          refine V2.y (i := 9) (Nx2.of (Z := Cls w [] [.obj b28 [.int .i64 x27.Tx, .int .i64 x27.Kind, .int .i64 x27.Item] 37, .obj b6 [gv12, (sv b5 (20 : Int).toNat)] 27, .obj b3 (zr svRow gq18 gl17).flatten 35, .ss (zs (svSd 3 1 I) gq18 gl17), .mp b2 (mrow (VT gq37) (tk gl36)), .obj b1 [.slice none 0 0, .slice none 0 0] 27, .sl gv12 41 2 (zr TTale.rowv gq14 gl13), .sl (sv b5 (20 : Int).toNat) 34 1 (zr svRow gq16 gl15), .ss (zs (svSd 3 1 I) gq16 gl15), .os []]) [] (by kernel_rfl) rfl (Zc.on (fun _ hw => hw.sel [0, 1, 2, 3, 4, 7, 8, 9, 10, 11] (by decide) rfl) (Zc.on (fun _ hw => hw.sel [0, 1, 2, 3, 4, 6, 7, 8, 9, 10] (by decide) rfl) (Zc.fin (fun _ hw => hw))))) rfl rfl rfl (Y.fieldP fd41_1 rfl) ?_
          refine V2.y (i := 10) (Nx2.of (Z := Cls w [] [.obj b28 [.int .i64 x27.Tx, .int .i64 x27.Kind, .int .i64 x27.Item] 37, .obj b6 [gv12, (sv b5 (20 : Int).toNat)] 27, .obj b3 (zr svRow gq18 gl17).flatten 35, .ss (zs (svSd 3 1 I) gq18 gl17), .mp b2 (mrow (VT gq37) (tk gl36)), .os (tsObs gq37 gq38 41 gl36), .obj b1 [.slice none 0 0, .slice none 0 0] 27, .sl gv12 41 2 (zr TTale.rowv gq14 gl13), .sl (sv b5 (20 : Int).toNat) 34 1 (zr svRow gq16 gl15), .ss (zs (svSd 3 1 I) gq16 gl15), .os []]) [23] (by kernel_rfl) rfl (Zc.on (fun _ hw => hw.sel [0, 1, 2, 3, 4, 5, 7, 8, 9, 10, 11] (by decide) rfl) (Zc.at1 (fun _ hw => hw)))) rfl rfl rfl (Y.tsLoad (q := 5) (bs := gq37) (us := gq38) (ks := gl36) (a := x27.Tx) ag39 rfl rfl ex131) ?_
          refine V2.y (i := 11) (Nx2.of (Z := Cls w [] [.obj b28 [.int .i64 x27.Tx, .int .i64 x27.Kind, .int .i64 x27.Item] 37, .obj b6 [gv12, (sv b5 (20 : Int).toNat)] 27, .obj b3 (zr svRow gq18 gl17).flatten 35, .ss (zs (svSd 3 1 I) gq18 gl17), .mp b2 (mrow (VT gq37) (tk gl36)), .obj b1 [.slice none 0 0, .slice none 0 0] 27, .sl gv12 41 2 (zr TTale.rowv gq14 gl13), .sl (sv b5 (20 : Int).toNat) 34 1 (zr svRow gq16 gl15), .ss (zs (svSd 3 1 I) gq16 gl15), .os []]) [] (by kernel_rfl) rfl (Zc.on (fun _ hw => hw.sel [0, 1, 2, 3, 4, 7, 8, 9, 10, 11] (by decide) rfl) (Zc.on (fun _ hw => hw.sel [0, 1, 2, 3, 4, 6, 7, 8, 9, 10] (by decide) rfl) (Zc.fin (fun _ hw => hw))))) rfl rfl rfl (Y.fieldP fd37_2 rfl) ?_
          refine V2.y (i := 12) (Nx2.of (Z := Cls w [] [.obj b28 [.int .i64 x27.Tx, .int .i64 x27.Kind, .int .i64 x27.Item] 37, .obj b6 [gv12, (sv b5 (20 : Int).toNat)] 27, .obj b3 (zr svRow gq18 gl17).flatten 35, .ss (zs (svSd 3 1 I) gq18 gl17), .mp b2 (mrow (VT gq37) (tk gl36)), .obj b1 [.slice none 0 0, .slice none 0 0] 27, .sl gv12 41 2 (zr TTale.rowv gq14 gl13), .sl (sv b5 (20 : Int).toNat) 34 1 (zr svRow gq16 gl15), .ss (zs (svSd 3 1 I) gq16 gl15), .os []]) [] (by kernel_rfl) rfl (Zc.on (fun _ hw => hw.sel [0, 1, 2, 3, 4, 7, 8, 9, 10, 11] (by decide) rfl) (Zc.on (fun _ hw => hw.sel [0, 1, 2, 3, 4, 6, 7, 8, 9, 10] (by decide) rfl) (Zc.fin (fun _ hw => hw))))) rfl rfl rfl (Y.loadP (i := 0) ag3 rfl rfl rfl) ?_
          refine V2.y (i := 13) (Nx2.of (Z := Cls w [] [.obj b28 [.int .i64 x27.Tx, .int .i64 x27.Kind, .int .i64 x27.Item] 37, .obj b6 [gv12, (sv b5 (20 : Int).toNat)] 27, .obj b3 (zr svRow gq18 gl17).flatten 35, .ss (zs (svSd 3 1 I) gq18 gl17), .mp b2 (mrow (VT gq37) (tk gl36)), .obj b1 [.slice none 0 0, .slice none 0 0] 27, .sl gv12 41 2 (zr TTale.rowv gq14 gl13), .sl (sv b5 (20 : Int).toNat) 34 1 (zr svRow gq16 gl15), .ss (zs (svSd 3 1 I) gq16 gl15), .os []]) [] (by kernel_rfl) rfl (Zc.on (fun _ hw => hw.sel [0, 1, 2, 3, 4, 7, 8, 9, 10, 11] (by decide) rfl) (Zc.on (fun _ hw => hw.sel [0, 1, 2, 3, 4, 6, 7, 8, 9, 10] (by decide) rfl) (Zc.fin (fun _ hw => hw))))) rfl rfl rfl (Y.move rfl) ?_
          refine V2.y (i := 14) (Nx2.of (Z := Cls w [] [.obj b28 [.int .i64 x27.Tx, .int .i64 x27.Kind, .int .i64 x27.Item] 37, .obj b6 [gv12, (sv b5 (20 : Int).toNat)] 27, .obj b3 (zr svRow gq18 gl17).flatten 35, .ss (zs (svSd 3 1 I) gq18 gl17), .mp b2 (mrow (VT gq37) (tk gl36)), .obj b1 [.slice none 0 0, .slice none 0 0] 27, .sl gv12 41 2 (zr TTale.rowv gq14 gl13), .sl (sv b5 (20 : Int).toNat) 34 1 (zr svRow gq16 gl15), .ss (zs (svSd 3 1 I) gq16 gl15), .os []]) [] (by kernel_rfl) rfl (Zc.on (fun _ hw => hw.sel [0, 1, 2, 3, 4, 7, 8, 9, 10, 11] (by decide) rfl) (Zc.on (fun _ hw => hw.sel [0, 1, 2, 3, 4, 6, 7, 8, 9, 10] (by decide) rfl) (Zc.fin (fun _ hw => hw))))) rfl rfl rfl (Y.move rfl) ?_
          refine V2.m (i := 15) (V' := fun _ => el u1 (gx11.toNat * 2)) h (Nx2.of (Z := Cls w [] [.obj b28 [.int .i64 x27.Tx, .int .i64 x27.Kind, .int .i64 x27.Item] 37, .obj b6 [gv12, (sv b5 (20 : Int).toNat)] 27, .obj b3 (zr svRow gq18 gl17).flatten 35, .ss (zs (svSd 3 1 I) gq18 gl17), .mp b2 (mrow (VT gq37) (tk gl36)), .obj b1 [.slice none 0 0, .slice none 0 0] 27, .sl gv12 41 2 (zr TTale.rowv gq14 gl13), .sl (sv b5 (20 : Int).toNat) 34 1 (zr svRow gq16 gl15), .ss (zs (svSd 3 1 I) gq16 gl15), .os []]) [] (by kernel_rfl) rfl (Zc.on (fun _ hw => hw.sel [0, 1, 2, 3, 4, 7, 8, 9, 10, 11] (by decide) rfl) (Zc.on (fun _ hw => hw.sel [0, 1, 2, 3, 4, 6, 7, 8, 9, 10] (by decide) rfl) (Zc.fin (fun _ hw => hw))))) rfl rfl rfl (Y.indexM (g := TDid.row) (l := a1) Try.underlying23 sz43 rfl rfl (fun w' hw => (hA1.up.clsP hK hw rfl))) (fun x132 ex132 h => ?_)
          refine V2.y (i := 16) (Nx2.of (Z := Cls w [] [.obj b28 [.int .i64 x27.Tx, .int .i64 x27.Kind, .int .i64 x27.Item] 37, .obj b6 [gv12, (sv b5 (20 : Int).toNat)] 27, .obj b3 (zr svRow gq18 gl17).flatten 35, .ss (zs (svSd 3 1 I) gq18 gl17), .mp b2 (mrow (VT gq37) (tk gl36)), .obj b1 [.slice none 0 0, .slice none 0 0] 27, .sl gv12 41 2 (zr TTale.rowv gq14 gl13), .sl (sv b5 (20 : Int).toNat) 34 1 (zr svRow gq16 gl15), .ss (zs (svSd 3 1 I) gq16 gl15), .os []]) [] (by kernel_rfl) rfl (Zc.on (fun _ hw => hw.sel [0, 1, 2, 3, 4, 7, 8, 9, 10, 11] (by decide) rfl) (Zc.on (fun _ hw => hw.sel [0, 1, 2, 3, 4, 6, 7, 8, 9, 10] (by decide) rfl) (Zc.fin (fun _ hw => hw))))) rfl rfl rfl (Y.fieldE fd43_1 rfl) ?_
          refine V2.y (i := 17) (Nx2.of (Z := Cls w [] [.obj b28 [.int .i64 x27.Tx, .int .i64 x27.Kind, .int .i64 x27.Item] 37, .obj b6 [gv12, (sv b5 (20 : Int).toNat)] 27, .obj b3 (zr svRow gq18 gl17).flatten 35, .ss (zs (svSd 3 1 I) gq18 gl17), .mp b2 (mrow (VT gq37) (tk gl36)), .obj b1 [.slice none 0 0, .slice none 0 0] 27, .sl gv12 41 2 (zr TTale.rowv gq14 gl13), .sl (sv b5 (20 : Int).toNat) 34 1 (zr svRow gq16 gl15), .ss (zs (svSd 3 1 I) gq16 gl15), .os []]) [] (by kernel_rfl) rfl (Zc.on (fun _ hw => hw.sel [0, 1, 2, 3, 4, 7, 8, 9, 10, 11] (by decide) rfl) (Zc.on (fun _ hw => hw.sel [0, 1, 2, 3, 4, 6, 7, 8, 9, 10] (by decide) rfl) (Zc.fin (fun _ hw => hw))))) rfl rfl rfl (Y.loadE (u := .int .i64 x132.From) ag3 rfl (fun w' hw => (hA1.up.clsP hK hw rfl)) (idx_map ex132) rfl) ?_
          refine V2.y (i := 18) (Nx2.of (Z := Cls w [] [.obj b28 [.int .i64 x27.Tx, .int .i64 x27.Kind, .int .i64 x27.Item] 37, .obj b6 [gv12, (sv b5 (20 : Int).toNat)] 27, .obj b3 (zr svRow gq18 gl17).flatten 35, .ss (zs (svSd 3 1 I) gq18 gl17), .mp b2 (mrow (VT gq37) (tk gl36)), .obj b1 [.slice none 0 0, .slice none 0 0] 27, .sl gv12 41 2 (zr TTale.rowv gq14 gl13), .sl (sv b5 (20 : Int).toNat) 34 1 (zr svRow gq16 gl15), .ss (zs (svSd 3 1 I) gq16 gl15), .os []]) [] (by kernel_rfl) rfl (Zc.on (fun _ hw => hw.sel [0, 1, 2, 3, 4, 7, 8, 9, 10, 11] (by decide) rfl) (Zc.on (fun _ hw => hw.sel [0, 1, 2, 3, 4, 6, 7, 8, 9, 10] (by decide) rfl) (Zc.fin (fun _ hw => hw))))) rfl rfl rfl (Y.build (cells := #[.int .i64 x27.Item, .int .i64 x132.From]) rfl (by kernel_rfl)) ?_
          refine V2.eff (i := 19) (by kernel_rfl) rfl ?_
          refine L.litAgg rfl Try.underlying39 eL45 rfl rfl rfl ?_
          intro b133
          refine L.nil (E.toV2 (stC [[20, 23], [23]] [Cls w [] [.sl (sv b133 1) 45 2 (([(⟨x27.Item, x132.From⟩ : TGot)]).map TGot.row), .obj b28 [.int .i64 x27.Tx, .int .i64 x27.Kind, .int .i64 x27.Item] 37, .obj b6 [gv12, (sv b5 (20 : Int).toNat)] 27, .obj b3 (zr svRow gq18 gl17).flatten 35, .ss (zs (svSd 3 1 I) gq18 gl17), .mp b2 (mrow (VT gq37) (tk gl36)), .os (tsObs gq37 gq38 41 gl36), .any (tsRes gq23 gq38 45 2 (tsRows TGot.row gl39) (zs TTale.sds gq14 gl13)), .obj b1 [.slice none 0 0, .slice none 0 0] 27, .sl gv12 41 2 (zr TTale.rowv gq14 gl13), .sl (sv b5 (20 : Int).toNat) 34 1 (zr svRow gq16 gl15), .ss (zs (svSd 3 1 I) gq16 gl15), .os []], Cls w [] [.sl (sv b133 1) 45 2 (([(⟨x27.Item, x132.From⟩ : TGot)]).map TGot.row), .obj b28 [.int .i64 x27.Tx, .int .i64 x27.Kind, .int .i64 x27.Item] 37, .obj b6 [gv12, (sv b5 (20 : Int).toNat)] 27, .obj b3 (zr svRow gq18 gl17).flatten 35, .ss (zs (svSd 3 1 I) gq18 gl17), .mp b2 (mrow (VT gq37) (tk gl36)), .os (tsObs gq37 gq38 41 gl36), .obj b1 [.slice none 0 0, .slice none 0 0] 27, .sl gv12 41 2 (zr TTale.rowv gq14 gl13), .sl (sv b5 (20 : Int).toNat) 34 1 (zr svRow gq16 gl15), .ss (zs (svSd 3 1 I) gq16 gl15), .os []]] (Cls w [] [.sl (sv b133 1) 45 2 (([(⟨x27.Item, x132.From⟩ : TGot)]).map TGot.row), .obj b28 [.int .i64 x27.Tx, .int .i64 x27.Kind, .int .i64 x27.Item] 37, .obj b6 [gv12, (sv b5 (20 : Int).toNat)] 27, .obj b3 (zr svRow gq18 gl17).flatten 35, .ss (zs (svSd 3 1 I) gq18 gl17), .mp b2 (mrow (VT gq37) (tk gl36)), .obj b1 [.slice none 0 0, .slice none 0 0] 27, .sl gv12 41 2 (zr TTale.rowv gq14 gl13), .sl (sv b5 (20 : Int).toNat) 34 1 (zr svRow gq16 gl15), .ss (zs (svSd 3 1 I) gq16 gl15), .os []])) 19 (by kernel_rfl) (Sc.stay (fun _ hw => hw.sel [1, 2, 3, 4, 5, 6, 7, 8, 9, 10, 11, 12] (by decide) rfl) (Sc.stay (fun _ hw => hw.sel [1, 2, 3, 4, 5, 6, 7, 8, 9, 10, 11] (by decide) rfl) (Sc.stayD (fun _ hw => hw.sel [1, 2, 3, 4, 5, 6, 7, 8, 9, 10] (by decide) rfl)))) (Sc.now (by kernel_rfl) (fun _ hw => hw)) ?_)
          refine V2.eff (i := 20) (by kernel_rfl) rfl ?_
          obtain ⟨l136, el136, h⟩ := bind1S h
          refine L.tsApp (i := 7) (row := TGot.row) (us := gq38) (tl := gl39) (a := x27.Tx) (x := l136) (more := [(⟨x27.Item, x132.From⟩ : TGot)]) h el136 rfl Try.underlying39 eL45 rfl rfl rfl (fun w hw => As.at_ (hw.get (i := 0) rfl)) (plain_TGot _) rfl ?_
          intro v134 q135 l137 el137 h
          refine L.nil (E.toV2 (stC [[23]] [Cls w [] [.sl (sv b133 1) 45 2 (([(⟨x27.Item, x132.From⟩ : TGot)]).map TGot.row), .obj b28 [.int .i64 x27.Tx, .int .i64 x27.Kind, .int .i64 x27.Item] 37, .obj b6 [gv12, (sv b5 (20 : Int).toNat)] 27, .obj b3 (zr svRow gq18 gl17).flatten 35, .ss (zs (svSd 3 1 I) gq18 gl17), .mp b2 (mrow (VT gq37) (tk gl36)), .os (tsObs gq37 gq38 41 gl36), .obj b1 [.slice none 0 0, .slice none 0 0] 27, .sl gv12 41 2 (zr TTale.rowv gq14 gl13), .sl (sv b5 (20 : Int).toNat) 34 1 (zr svRow gq16 gl15), .ss (zs (svSd 3 1 I) gq16 gl15), .os []]] (Cls w [] [.sl (sv b133 1) 45 2 (([(⟨x27.Item, x132.From⟩ : TGot)]).map TGot.row), .obj b28 [.int .i64 x27.Tx, .int .i64 x27.Kind, .int .i64 x27.Item] 37, .obj b6 [gv12, (sv b5 (20 : Int).toNat)] 27, .obj b3 (zr svRow gq18 gl17).flatten 35, .ss (zs (svSd 3 1 I) gq18 gl17), .mp b2 (mrow (VT gq37) (tk gl36)), .obj b1 [.slice none 0 0, .slice none 0 0] 27, .sl gv12 41 2 (zr TTale.rowv gq14 gl13), .sl (sv b5 (20 : Int).toNat) 34 1 (zr svRow gq16 gl15), .ss (zs (svSd 3 1 I) gq16 gl15), .os []])) 20 (by kernel_rfl) (Sc.past rfl (Sc.stay (fun _ hw => hw) (Sc.stayD (fun _ hw => hw)))) (Sc.now (by kernel_rfl) (fun _ hw => hw.sel [1, 2, 3, 4, 5, 6, 7, 8, 9, 10, 11, 12] (by decide) rfl)) ?_)
          refine V2.nilc (i := 21) (Nx2.of (Z := Cls w [] [.sl (sv b133 1) 45 2 (([(⟨x27.Item, x132.From⟩ : TGot)]).map TGot.row), .obj b28 [.int .i64 x27.Tx, .int .i64 x27.Kind, .int .i64 x27.Item] 37, .obj b6 [gv12, (sv b5 (20 : Int).toNat)] 27, .obj b3 (zr svRow gq18 gl17).flatten 35, .ss (zs (svSd 3 1 I) gq18 gl17), .mp b2 (mrow (VT gq37) (tk gl36)), .obj b1 [.slice none 0 0, .slice none 0 0] 27, .sl gv12 41 2 (zr TTale.rowv gq14 gl13), .sl (sv b5 (20 : Int).toNat) 34 1 (zr svRow gq16 gl15), .ss (zs (svSd 3 1 I) gq16 gl15), .os []]) [] (by kernel_rfl) rfl (Zc.on (fun _ hw => hw.sel [0, 1, 2, 3, 4, 5, 7, 8, 9, 10, 11] (by decide) rfl) (Zc.fin (fun _ hw => hw)))) rfl rfl rfl ?_
          refine V2.y (i := 22) (Nx2.of (Z := Cls w [] [.sl (sv b133 1) 45 2 (([(⟨x27.Item, x132.From⟩ : TGot)]).map TGot.row), .obj b28 [.int .i64 x27.Tx, .int .i64 x27.Kind, .int .i64 x27.Item] 37, .obj b6 [gv12, (sv b5 (20 : Int).toNat)] 27, .obj b3 (zr svRow gq18 gl17).flatten 35, .ss (zs (svSd 3 1 I) gq18 gl17), .mp b2 (mrow (VT gq37) (tk gl36)), .obj b1 [.slice none 0 0, .slice none 0 0] 27, .sl gv12 41 2 (zr TTale.rowv gq14 gl13), .sl (sv b5 (20 : Int).toNat) 34 1 (zr svRow gq16 gl15), .ss (zs (svSd 3 1 I) gq16 gl15), .os []]) [] (by kernel_rfl) rfl (Zc.on (fun _ hw => hw.sel [0, 1, 2, 3, 4, 5, 7, 8, 9, 10, 11] (by decide) rfl) (Zc.fin (fun _ hw => hw)))) rfl rfl rfl (Y.fieldP fd41_1 rfl) ?_
          refine V2.eff (i := 23) (by kernel_rfl) rfl ?_
          refine L.tsStore (q := 7) (i := 0) (bs := gq37) (us := gq38) (ks := gl36) (a := x27.Tx) (row := TGot.row) sz39 rfl rfl rfl rfl ex130 (tsGet_put el136) ?_
          refine L.nil (E.toV2 (stC [] [] (Cls w [] [.sl (sv b133 1) 45 2 (([(⟨x27.Item, x132.From⟩ : TGot)]).map TGot.row), .obj b28 [.int .i64 x27.Tx, .int .i64 x27.Kind, .int .i64 x27.Item] 37, .obj b6 [gv12, (sv b5 (20 : Int).toNat)] 27, .obj b3 (zr svRow gq18 gl17).flatten 35, .ss (zs (svSd 3 1 I) gq18 gl17), .mp b2 (mrow (VT gq37) (tk gl36)), .obj b1 [.slice none 0 0, .slice none 0 0] 27, .sl gv12 41 2 (zr TTale.rowv gq14 gl13), .sl (sv b5 (20 : Int).toNat) 34 1 (zr svRow gq16 gl15), .ss (zs (svSd 3 1 I) gq16 gl15), .os []])) 23 (by kernel_rfl) (Sc.past rfl (Sc.stayD (fun _ hw => hw))) (Sc.atD (fun _ hw => hw.sel [1, 2, 3, 4, 5, 6, 8, 9, 10, 11, 12] (by decide) rfl)) ?_)
          refine V2.done (by kernel_rfl) ?_
          exact E.blockN (E.blockN (E.joinJ ⟨gv12, gl13, gq14, gl15, gq16, gl17, gq18, gl36, gq37, (fput gq38 x27.Tx v134), (tsPut gl39 x27.Tx l137), q135, rfl, rfl, h⟩ ⟨rfl, rfl, rfl, rfl, rfl, rfl, rfl, rfl, trivial⟩ (fun _ hw => hw.sel [3, 4, 5, 6, 7, 0, 8, 9, 10, 11, 12] (by decide) rfl)))
     ·
      rintro _ _ ⟨gv24, gl25, gq26, gl27, gq28, gl29, gq30, gl31, gq32, gq33, gl34, gq35, rfl, rfl, h⟩
      rw [m4_order_Of_K3] at h
      refine W.region (L.m (V := fun x26 => .int .i64 x26) h rfl (Y.addM rfl rfl) (fun x26 ex26 h => ?_))
      refine L.y rfl (Y.move rfl) ?_
      exact L.nil (E.againJ ⟨x26, gv24, gl25, gq26, gl27, gq28, gl29, gq30, gl31, gq32, gq33, gl34, gq35, rfl, rfl, by rw [hg1]; exact h⟩ (Nat.lt_succ_self _) ⟨rfl, rfl, rfl, rfl, rfl, rfl, rfl, rfl, trivial⟩ (fun _ hw => hw))
    ·
     refine L.nil (E.thenN (W.seq (W.condF rfl ?_)))
     exact W.exit (E.thenX (E.KLX (E.blockX (E.joinJ ⟨gv12, gl13, gq14, gl15, gq16, gl19, gq20, gq21, gl22, gq23, rfl, rfl, h⟩ ⟨rfl, rfl, trivial⟩ (fun _ hw => hw.sel [0, 3, 4, 5, 6, 7, 8, 9, 10] (by decide) rfl)))))
   ·
    rintro _ _ ⟨gv1, gl2, gq3, gl4, gq5, gl6, gq7, gq8, gl9, gq10, rfl, rfl, h⟩
    rw [m4_order_Of_K2] at h
    refine W.seq (W.region (L.y rfl (Y.fieldP fd27_0 rfl) ?_))
    refine L.y rfl (Y.loadP (i := 0) ag24 rfl rfl rfl) ?_
    refine L.tsFrz (i := 3) rfl rfl rfl ?_
    intro c7 mo8 hf9
    refine L.to (D := Cls w [] [.obj b6 [gv1, (sv b5 (20 : Int).toNat)] 27, .mp b2 (mrow (VT gq7) (tk gl6)), .os (tsObs gq7 gq8 41 gl6), .obj b1 [.slice none 0 0, .slice none 0 0] 27, .sl gv1 41 2 (zr TTale.rowv gq3 gl2), .sl (sv b5 (20 : Int).toNat) 34 1 (zr svRow gq5 gl4), .ss (zs (svSd 3 1 I) gq5 gl4), .os c7]) (fun _ hw => hw) ?_
    refine L.sortAz (i := 4) (q := gq3) (l := gl2) (cf := (fun x y => (m9_order_Of_1 x y).getD 0)) h wSortA8 (fun _ _ => rfl) plz_TTale swo9 en9 hK rfl (hf9 K) (fun x v y u w hA hB => (w9_order_Of_1 x y (gv v 0) (gv u 0) w _ (def9 x y) (hA _ (List.mem_cons_self ..)) (hB _ (List.mem_cons_self ..))).mono (fun _ _ h => h.1)) rfl en8 rfl rfl rfl rfl ?_
    intro l10 q11 hpl10 hsl10 h hz12
    refine L.nil (E.thenN (W.seq (W.seq (W.region (L.y rfl (Y.loadPW (i := 0) ag27 sz27 rfl rfl rfl) ?_)))))
    refine L.frz (i := 4) rfl rfl rfl ?_
    intro c13 mo14 hf15
    refine L.frzS (i := 5) rfl rfl rfl ?_
    intro c16 mo17 hf18
    refine L.frz (i := 4) rfl rfl rfl ?_
    intro c19 mo20 hf21
    obtain ⟨x22, e23, h⟩ := bind1S h
    refine L.y rfl (Y.does en11 rfl (fun w' hw => (w11_order_Check (⟨l10, gl4⟩ : TStory) gv1 q11 (sv b5 (20 : Int).toNat) gq5 (Kn K _) w' (hK.kn hw rfl).f _ e23 (((hf15 K).mo mo17).mo mo20).tok (((hz12.mo mo14).mo mo17).mo mo20).tok (hf21 K).tok ((hf18 K).mo mo20).tok).mono (fun _ _ h => h.1))) ?_
    refine L.ite h rfl (Y.neq rfl rfl) (fun c24 h => ?_) (fun c24 h => ?_)
    ·
     refine L.nil (E.thenN (W.condT rfl ?_))
     refine W.seq (W.region (L.y rfl (Y.build (cells := #[.slice none 0 0, .slice none 0 0]) rfl (by kernel_rfl)) ?_))
     refine L.store (i := 3) (vs := [.slice none 0 0, .slice none 0 0]) sz27 rfl rfl rfl rfl (by simp [Value.oneCell', Value.cells, st, pt, el]) rfl (Nat.le_of_ble_eq_true rfl) ?_
     refine L.y rfl (Y.assign rfl) ?_
     refine L.nil (E.thenN (W.ret (E.thenR (E.retR2 rfl (Rv.cellW (i := 3) ag27 sz27 rfl rfl rfl) (Rv.tmp rfl) (fun w1 hw => ?_)))))
     obtain rfl := Option.some.inj h
     exact ⟨_, _, rfl, ⟨c19, rfl, (.slice none 0 0), (fun _ => []), (.slice none 0 0), (fun _ => []), rfl, Fz.nil, FzA.nil, Fz.nil, FzA.nil⟩, hw.sel [4] (by decide) rfl⟩
    ·
     refine L.nil (E.thenN (W.condF rfl ?_))
     refine W.skip (E.thenN (W.seq (W.region (L.y rfl (Y.loadPW (i := 0) ag27 sz27 rfl rfl rfl) ?_))))
     refine L.storeC (i := 3) sz27 rfl rfl rfl rfl (fun w hw => (all1 ((((hf15 K).mo mo17).mo mo20).clsP hK hw rfl).one (all1 ((hf21 K).clsP hK hw rfl).one all0))) rfl (Nat.le_of_ble_eq_true rfl) ?_
     refine L.y rfl (Y.assign rfl) ?_
     refine L.nil (E.thenN (W.ret (E.retR2 rfl (Rv.cellW (i := 3) ag27 sz27 rfl rfl rfl) (Rv.tmp rfl) (fun w1 hw => ?_))))
     obtain rfl := Option.some.inj h
     exact ⟨_, _, rfl, ⟨c19, rfl, gv1, q11, (sv b5 (20 : Int).toNat), gq5, rfl, (((hf15 K).mo mo17).mo mo20), (((hz12.mo mo14).mo mo17).mo mo20), (hf21 K), ((hf18 K).mo mo20)⟩, hw.sel [4] (by decide) rfl⟩
set_option maxRecDepth 100000 in
set_option maxHeartbeats 8000000 in
theorem w42_api_Op (a0 : (List TOp)) (a1 : TOp) (u0 : Value) (w : World) (r : Int) (h : m42_api_Op a0 a1 = some r) (hA0 : At w u0 3 (a0.map TOp.row)) : Does Try.prog 42 [u0, .agg #[.int .i64 a1.Tx, .int .i64 a1.Kind, .int .i64 a1.Item]] w fun u m => u = .int .i64 r ∧ m = [] := by
  rw [m42_api_Op] at h
  refine body (n := 19) Try.func42 rfl rfl rfl (Cls.refl w) ?_
  refine W.seq (W.region (L.box rfl rfl ?_))
  intro b1
  refine L.y rfl (Y.assign rfl) ?_
  refine L.nil (E.thenN (W.seqJ (fun gs D => gs = [] ∧ D = Cls w [] [] ∧ m42_api_Op_K1 = some r) ?_ ?_))
  ·
   refine W.seq (W.region (L.y rfl (Y.move rfl) ?_))
   refine L.y rfl (Y.lenM (g := TOp.row) (l := a0) Try.underlying22 rfl (fun w' hw => hA0.cls0 hw)) ?_
   refine L.y rfl (Y.move rfl) ?_
   refine L.nil (E.thenN (W.block (W.loopJ (fun m gs D => ∃ (gx1 : Int), gs = [(0, u0), (3, pt b1 0), (7, .int .i64 (a0.length : Int)), (8, .int .i64 gx1)] ∧ D = Cls w [] [.obj b1 [.int .i64 a1.Tx, .int .i64 a1.Kind, .int .i64 a1.Item] 37] ∧ m42_api_Op_L1 a0 a1 m gx1 = some r) ⟨0, rfl, rfl, h⟩ ⟨rfl, rfl, rfl, rfl, trivial⟩ (fun _ hw => hw) ?_)))
   rintro m _ _ ⟨gx1, rfl, rfl, h⟩
   rcases m with _ | m
   · rw [m42_api_Op_L1] at h; cases h
   rw [m42_api_Op_L1] at h
   generalize hg1 : m42_api_Op_L1 a0 a1 m = go1 at h
   rw [m42_api_Op_L1B] at h
   refine W.seq (W.region (L.ite h rfl (Y.lss rfl rfl) (fun c2 h => ?_) (fun c2 h => ?_)))
   ·
    refine L.nil (E.thenN (W.seq (W.condT rfl ?_)))
    refine W.skip (E.thenN (W.seq (W.block (W.seq (W.region (L.y rfl (Y.move rfl) ?_))))))
    refine L.y rfl (Y.assign rfl) ?_
    refine L.nil (E.thenN (W.seq (W.quietC mixed (by kernel_rfl) (fun _ hw => hw.drew) (fun hC => ?_))))
    refine U.y rfl (Y.loadPW (i := 0) ag37 sz37 rfl rfl rfl) ?_
    refine U.y rfl (Y.move rfl) ?_
    refine U.y rfl (Y.move rfl) ?_
    refine U.m (V := fun _ => el u0 (gx1.toNat * 3)) h rfl (Y.indexM (g := TOp.row) (l := a0) Try.underlying22 sz37 rfl rfl (fun w' hw => hA0.cls0 hw)) (fun x3 ex3 h => ?_)
    refine U.y rfl (Y.loadEN (r := [.int .i64 x3.Tx, .int .i64 x3.Kind, .int .i64 x3.Item]) ag37 sz37 rfl (fun w' hw => hA0.cls0 hw) (idx_map ex3) rfl) ?_
    refine U.ite h rfl (Y.eqlA (row := TOp.row) (a := a1) (b := x3) eg37 ag37 (sh37 _) (sh37 _) (inj37 _ _) rfl rfl) (fun c4 h => ?_) (fun c4 h => ?_)
    ·
     refine U.nil (E.thenN (W.condT rfl ?_))
     refine W.seq (W.region (L.y rfl (Y.move rfl) ?_))
     refine L.y rfl (Y.assign rfl) ?_
     refine L.nil (E.thenN (W.ret (E.blockR (E.thenR (E.KLR (E.blockR (E.KSR (E.ret1 rfl rfl (fun w1 hw => ?_)))))))))
     obtain rfl := Option.some.inj h
     exact ⟨_, _, rfl, ⟨rfl, rfl⟩, hw.sel [] (by decide) rfl⟩
    ·
     refine U.nil (E.thenN (W.condF rfl ?_))
     refine W.skip (E.blockN (E.thenN (W.region (L.m (V := fun x5 => .int .i64 x5) h rfl (Y.addM rfl rfl) (fun x5 ex5 h => ?_)))))
     refine L.y rfl (Y.move rfl) ?_
     exact L.nil (E.againJ ⟨x5, rfl, rfl, by rw [hg1]; exact h⟩ (Nat.lt_succ_self _) ⟨rfl, rfl, rfl, rfl, trivial⟩ (fun _ hw => hw))
   ·
    refine L.nil (E.thenN (W.seq (W.condF rfl ?_)))
    exact W.exit (E.thenX (E.KLX (E.blockX (E.joinJ ⟨rfl, rfl, h⟩ trivial (fun _ hw => hw.sel [] (by decide) rfl)))))
  ·
   rintro _ _ ⟨rfl, rfl, h⟩
   rw [m42_api_Op_K1] at h
   refine W.seq (W.region (L.y rfl (Y.assign rfl) ?_))
   refine L.nil (E.thenN (W.ret (E.ret1 rfl rfl (fun w1 hw => ?_))))
   obtain rfl := Option.some.inj h
   exact ⟨_, _, rfl, ⟨rfl, rfl⟩, hw⟩
set_option maxRecDepth 100000 in
set_option maxHeartbeats 8000000 in
theorem w26_api_Op (a0 : (List TOp)) (a1 : TOp) (u0 : Value) (w : World) (r : Bool) (h : m26_api_Op a0 a1 = some r) (hA0 : At w u0 3 (a0.map TOp.row)) : Does Try.prog 26 [u0, .agg #[.int .i64 a1.Tx, .int .i64 a1.Kind, .int .i64 a1.Item]] w fun u m => u = .bool r ∧ m = [] := by
  rw [m26_api_Op] at h
  refine body (n := 9) Try.func26 rfl rfl rfl (Cls.refl w) ?_
  refine W.seq (W.region (L.box rfl rfl ?_))
  intro b1
  refine L.y rfl (Y.assign rfl) ?_
  refine L.nil (E.thenN (W.seq (W.region (L.y rfl (Y.move rfl) ?_))))
  refine L.y rfl (Y.loadPW (i := 0) ag37 sz37 rfl rfl rfl) ?_
  obtain ⟨x2, e3, h⟩ := bind1S h
  refine L.y rfl (Y.does en42 rfl (fun w' hw => (w42_api_Op a0 a1 u0 w' _ e3 (hA0.cls0 hw)).mono (fun _ _ h => h.1))) ?_
  refine L.y rfl (Y.geq rfl rfl) ?_
  refine L.y rfl (Y.assign rfl) ?_
  refine L.nil (E.thenN (W.ret (E.ret1 rfl rfl (fun w1 hw => ?_))))
  obtain rfl := Option.some.inj h
  exact ⟨_, _, rfl, ⟨rfl, rfl⟩, hw.sel [] (by decide) rfl⟩
set_option maxRecDepth 100000 in
set_option maxHeartbeats 8000000 in
theorem w12_quirref_wrote (a0 : (List TOp)) (a1 : Int) (a2 : Int) (u0 : Value) (w : World) (r : Bool) (h : m12_quirref_wrote a0 a1 a2 = some r) (hA0 : At w u0 3 (a0.map TOp.row)) : Does Try.prog 12 [u0, .int .i64 a1, .int .i64 a2] w fun u m => u = .bool r ∧ m = [] := by
  rw [m12_quirref_wrote] at h
  refine body (n := 12) Try.func12 rfl rfl rfl (Cls.refl w) ?_
  refine W.seq (W.region (L.y rfl (Y.assign rfl) ?_))
  refine L.nil (E.thenN (W.seq (W.region (L.y rfl (Y.move rfl) ?_))))
  refine L.y rfl (Y.move rfl) ?_
  refine L.y rfl (Y.move rfl) ?_
  refine L.y rfl (Y.build (cells := #[.int .i64 a1, .int .i64 2, .int .i64 a2]) rfl (by kernel_rfl)) ?_
  obtain ⟨b1, e2, h⟩ := bind1S h
  refine L.y rfl (Y.does en26 rfl (fun w' hw => (w26_api_Op a0 (⟨a1, 2, a2⟩ : TOp) u0 w' _ e2 (hA0.cls0 hw)).mono (fun _ _ h => h.1))) ?_
  refine L.y rfl (Y.assign rfl) ?_
  refine L.nil (E.thenN (W.ret (E.ret1 rfl rfl (fun w1 hw => ?_))))
  obtain rfl := Option.some.inj h
  exact ⟨_, _, rfl, ⟨rfl, rfl⟩, hw⟩
set_option maxRecDepth 100000 in
set_option maxHeartbeats 8000000 in
theorem w14_quirref_StoryErr (a0 : TStory) (u0_0 : Value) (q0_0 : Nat → List Value) (u0_2 : Value) (q0_2 : Nat → List Value) (K : World → Prop) (w : World) (hK : StbF K w []) (r : Int) (h : m14_quirref_StoryErr a0 = some r) (hA0_0 : Fz K [] u0_0 2 (zr TTale.rowv q0_0 a0.Tales)) (hD0_0 : FzA K [] (zs TTale.sds q0_0 a0.Tales)) (hA0_2 : Fz K [] u0_2 1 (zr svRow q0_2 a0.Versions)) (hD0_2 : FzA K [] (zs (svSd 3 1 I) q0_2 a0.Versions)) : Does Try.prog 14 [.agg #[u0_0, u0_2]] w fun u m => u = .int .i64 r ∧ m = [] := by
  rw [m14_quirref_StoryErr] at h
  refine body (n := 114) Try.func14 rfl rfl rfl (Cls.reflF w) ?_
  refine W.seq (W.region (L.box rfl rfl ?_))
  intro b1
  refine L.y rfl (Y.assign rfl) ?_
  refine L.nil (E.thenN (W.seqJ (fun gs D => gs = [(1, pt b1 0)] ∧ D = Cls w [] [.obj b1 [u0_0, u0_2] 27, .os []] ∧ m14_quirref_StoryErr_K1 a0 = some r) ?_ ?_))
  ·
   refine W.seq (W.region (L.y rfl (Y.fieldP fd27_0 rfl) ?_))
   refine L.y rfl (Y.loadP (i := 0) ag24 rfl rfl rfl) ?_
   refine L.y rfl (Y.lenMZ (row := TTale.rowv) (vs := q0_0) (l := a0.Tales) Try.underlying24 rfl (fun w' hw => (hA0_0.up.clsP hK hw rfl))) ?_
   refine L.ite h rfl (Y.gtr rfl rfl) (fun c35 h => ?_) (fun c35 h => ?_)
   ·
    refine L.y rfl (Y.move rfl) ?_
    refine L.pass rfl rfl (by nofun) ?_
    refine L.pass rfl rfl (by nofun) ?_
    refine L.pass rfl rfl (by nofun) ?_
    refine L.pass rfl rfl (by nofun) ?_
    refine L.y rfl (Y.pickT rfl rfl) ?_
    refine L.nil (E.thenN (W.condT rfl ?_))
    refine W.seq (W.region (L.y rfl (Y.assign rfl) ?_))
    refine L.nil (E.thenN (W.ret (E.KSR (E.ret1 rfl rfl (fun w1 hw => ?_)))))
    obtain rfl := Option.some.inj h
    exact ⟨_, _, rfl, ⟨rfl, rfl⟩, hw.sel [] (by decide) rfl⟩
   ·
    refine L.y rfl (Y.move rfl) ?_
    refine L.take rfl (L.y rfl (Y.fieldP fd27_1 rfl) ?_)
    refine L.take rfl (L.y rfl (Y.loadP (i := 0) ag25 rfl rfl rfl) ?_)
    refine L.take rfl (L.y rfl (Y.lenMZ (row := svRow) (vs := q0_2) (l := a0.Versions) Try.underlying25 rfl (fun w' hw => (hA0_2.up.clsP hK hw rfl))) ?_)
    refine L.take rfl (L.ite h rfl (Y.gtr rfl rfl) (fun c36 h => ?_) (fun c36 h => ?_))
    ·
     refine L.y rfl (Y.pickF rfl rfl) ?_
     refine L.nil (E.thenN (W.condT rfl ?_))
     refine W.seq (W.region (L.y rfl (Y.assign rfl) ?_))
     refine L.nil (E.thenN (W.ret (E.KSR (E.ret1 rfl rfl (fun w1 hw => ?_)))))
     obtain rfl := Option.some.inj h
     exact ⟨_, _, rfl, ⟨rfl, rfl⟩, hw.sel [] (by decide) rfl⟩
    ·
     refine L.y rfl (Y.pickF rfl rfl) ?_
     refine L.nil (E.thenN (W.condF rfl ?_))
     exact W.skip (E.joinJ ⟨rfl, rfl, h⟩ ⟨rfl, trivial⟩ (fun _ hw => hw))
  ·
   rintro _ _ ⟨rfl, rfl, h⟩
   rw [m14_quirref_StoryErr_K1] at h
   refine W.seq (W.region (L.y rfl (Y.func rfl) ?_))
   refine L.y rfl (Y.assign rfl) ?_
   refine L.nil (E.thenN (W.seq (W.region (L.y rfl (Y.assign rfl) ?_))))
   refine L.nil (E.thenN (W.seqJ (fun gs D => gs = [(1, pt b1 0), (3, .func (.func 29) #[] #[pt b1 0])] ∧ D = Cls w [] [.obj b1 [u0_0, u0_2] 27, .os []] ∧ m14_quirref_StoryErr_K2 a0 = some r) ?_ ?_))
   ·
    refine W.seq (W.region (L.y rfl (Y.fieldP fd27_0 rfl) ?_))
    refine L.y rfl (Y.loadP (i := 0) ag24 rfl rfl rfl) ?_
    refine L.y rfl (Y.lenMZ (row := TTale.rowv) (vs := q0_0) (l := a0.Tales) Try.underlying24 rfl (fun w' hw => (hA0_0.up.clsP hK hw rfl))) ?_
    refine L.y rfl (Y.move rfl) ?_
    refine L.nil (E.thenN (W.block (W.loopJ (fun m gs D => ∃ (gx7 : Int) (gx8 : Int), gs = [(1, pt b1 0), (3, .func (.func 29) #[] #[pt b1 0]), (4, .int .i64 gx7), (25, u0_0), (26, .int .i64 (a0.Tales.length : Int)), (27, .int .i64 gx8)] ∧ D = Cls w [] [.obj b1 [u0_0, u0_2] 27, .os []] ∧ m14_quirref_StoryErr_L4 a0 m gx7 gx8 = some r) ⟨(-1), 0, rfl, rfl, h⟩ ⟨rfl, rfl, rfl, rfl, rfl, rfl, trivial⟩ (fun _ hw => hw) ?_)))
    rintro m _ _ ⟨gx7, gx8, rfl, rfl, h⟩
    rcases m with _ | m
    · rw [m14_quirref_StoryErr_L4] at h; cases h
    rw [m14_quirref_StoryErr_L4] at h
    generalize hg4 : m14_quirref_StoryErr_L4 a0 m = go4 at h
    rw [m14_quirref_StoryErr_L4B] at h
    refine W.seq (W.region (L.ite h rfl (Y.lss rfl rfl) (fun c16 h => ?_) (fun c16 h => ?_)))
    ·
     refine L.nil (E.thenN (W.seq (W.condT rfl ?_)))
     refine W.skip (E.thenN (W.seqJ (fun gs D => ∃ (gx9 : Int), gs = [(1, pt b1 0), (3, .func (.func 29) #[] #[pt b1 0]), (4, .int .i64 gx9), (25, u0_0), (26, .int .i64 (a0.Tales.length : Int)), (27, .int .i64 gx8)] ∧ D = Cls w [] [.obj b1 [u0_0, u0_2] 27, .os []] ∧ m14_quirref_StoryErr_K10 gx8 go4 gx9 = some r) ?_ ?_))
     ·
      refine W.block (W.seq (W.region (L.m (V := fun _ => el u0_0 (gx8.toNat * 2)) h rfl (Y.indexMZ (row := TTale.rowv) (vs := q0_0) (l := a0.Tales) Try.underlying24 sz41 rfl rfl (fun w' hw => (hA0_0.up.clsP hK hw rfl))) (fun x18 ex18 h => ?_))))
      refine L.y rfl (Y.loadEN (r := [.int .i64 x18.Tx, gv (q0_0 gx8.toNat) 0]) ag41 sz41 rfl (fun w' hw => (hA0_0.up.clsP hK hw rfl)) (zr_idx (vs := q0_0) ex18) rfl) ?_
      refine L.alloc rfl ze41 ?_
      intro b19
      refine L.storeC (i := 0) sz41 rfl rfl rfl rfl (fun w hw => (all1 rfl (all1 (((FzA.at (sds := TTale.sds) (vs := q0_0) (j := 0) (nl := 1) hD0_0 (fun _ _ => rfl) ex18 rfl).up).clsP hK hw rfl).one all0))) rfl (Nat.le_of_ble_eq_true rfl) ?_
      refine L.nil (E.thenN (W.seqJ (fun gs D => gs = [(1, pt b1 0), (3, .func (.func 29) #[] #[pt b1 0]), (4, .int .i64 gx7), (6, pt b19 0), (25, u0_0), (26, .int .i64 (a0.Tales.length : Int)), (27, .int .i64 gx8)] ∧ D = Cls w [] [.obj b19 [.int .i64 x18.Tx, gv (q0_0 gx8.toNat) 0] 41, .obj b1 [u0_0, u0_2] 27, .os []] ∧ m14_quirref_StoryErr_K11 x18 gx7 a0 gx8 go4 = some r) ?_ ?_))
      ·
       refine W.seq (W.region (L.y rfl (Y.fieldP fd41_0 rfl) ?_))
       refine L.y rfl (Y.loadP (i := 0) ag3 rfl rfl rfl) ?_
       refine L.ite h rfl (Y.lss rfl rfl) (fun c33 h => ?_) (fun c33 h => ?_)
       ·
        refine L.y rfl (Y.move rfl) ?_
        refine L.pass rfl rfl (by nofun) ?_
        refine L.pass rfl rfl (by nofun) ?_
        refine L.pass rfl rfl (by nofun) ?_
        refine L.y rfl (Y.pickT rfl rfl) ?_
        refine L.nil (E.thenN (W.condT rfl ?_))
        refine W.seq (W.region (L.y rfl (Y.assign rfl) ?_))
        refine L.nil (E.thenN (W.ret (E.KSR (E.blockR (E.KSR (E.KLR (E.blockR (E.KSR (E.ret1 rfl rfl (fun w1 hw => ?_))))))))))
        obtain rfl := Option.some.inj h
        exact ⟨_, _, rfl, ⟨rfl, rfl⟩, hw.sel [] (by decide) rfl⟩
       ·
        refine L.y rfl (Y.move rfl) ?_
        refine L.take rfl (L.y rfl (Y.fieldP fd41_0 rfl) ?_)
        refine L.take rfl (L.y rfl (Y.loadP (i := 0) ag3 rfl rfl rfl) ?_)
        refine L.take rfl (L.ite h rfl (Y.gtr rfl rfl) (fun c34 h => ?_) (fun c34 h => ?_))
        ·
         refine L.y rfl (Y.pickF rfl rfl) ?_
         refine L.nil (E.thenN (W.condT rfl ?_))
         refine W.seq (W.region (L.y rfl (Y.assign rfl) ?_))
         refine L.nil (E.thenN (W.ret (E.KSR (E.blockR (E.KSR (E.KLR (E.blockR (E.KSR (E.ret1 rfl rfl (fun w1 hw => ?_))))))))))
         obtain rfl := Option.some.inj h
         exact ⟨_, _, rfl, ⟨rfl, rfl⟩, hw.sel [] (by decide) rfl⟩
        ·
         refine L.y rfl (Y.pickF rfl rfl) ?_
         refine L.nil (E.thenN (W.condF rfl ?_))
         exact W.skip (E.joinJ ⟨rfl, rfl, h⟩ ⟨rfl, rfl, rfl, rfl, rfl, rfl, rfl, trivial⟩ (fun _ hw => hw))
      ·
       rintro _ _ ⟨rfl, rfl, h⟩
       rw [m14_quirref_StoryErr_K11] at h
       refine W.seqJ (fun gs D => gs = [(1, pt b1 0), (3, .func (.func 29) #[] #[pt b1 0]), (6, pt b19 0), (25, u0_0), (26, .int .i64 (a0.Tales.length : Int)), (27, .int .i64 gx8)] ∧ D = Cls w [] [.obj b19 [.int .i64 x18.Tx, gv (q0_0 gx8.toNat) 0] 41, .obj b1 [u0_0, u0_2] 27, .os []] ∧ m14_quirref_StoryErr_K12 x18 a0 gx8 go4 = some r) ?_ ?_
       ·
        refine W.seq (W.region (L.y rfl (Y.fieldP fd41_0 rfl) ?_))
        refine L.y rfl (Y.loadP (i := 0) ag3 rfl rfl rfl) ?_
        refine L.y rfl (Y.move rfl) ?_
        refine L.ite h rfl (Y.leq rfl rfl) (fun c32 h => ?_) (fun c32 h => ?_)
        ·
         refine L.nil (E.thenN (W.condT rfl ?_))
         refine W.seq (W.region (L.y rfl (Y.assign rfl) ?_))
         refine L.nil (E.thenN (W.ret (E.KSR (E.blockR (E.KSR (E.KLR (E.blockR (E.KSR (E.ret1 rfl rfl (fun w1 hw => ?_))))))))))
         obtain rfl := Option.some.inj h
         exact ⟨_, _, rfl, ⟨rfl, rfl⟩, hw.sel [] (by decide) rfl⟩
        ·
         refine L.nil (E.thenN (W.condF rfl ?_))
         exact W.skip (E.joinJ ⟨rfl, rfl, h⟩ ⟨rfl, rfl, rfl, rfl, rfl, rfl, trivial⟩ (fun _ hw => hw))
       ·
        rintro _ _ ⟨rfl, rfl, h⟩
        rw [m14_quirref_StoryErr_K12] at h
        refine W.seq (W.region (L.y rfl (Y.fieldP fd41_0 rfl) ?_))
        refine L.y rfl (Y.loadP (i := 0) ag3 rfl rfl rfl) ?_
        refine L.y rfl (Y.assign rfl) ?_
        refine L.nil (E.thenN (W.seq (W.region (L.y rfl (Y.fieldP fd41_1 rfl) ?_))))
        refine L.y rfl (Y.loadP (i := 0) ag39 rfl rfl rfl) ?_
        refine L.y rfl (Y.lenM (g := TGot.row) (l := x18.Reads) Try.underlying39 rfl (fun w' hw => (((FzA.at (sds := TTale.sds) (vs := q0_0) (j := 0) (nl := 1) hD0_0 (fun _ _ => rfl) ex18 rfl).up).clsP hK hw rfl))) ?_
        refine L.y rfl (Y.move rfl) ?_
        refine L.nil (E.thenN (W.block (W.loopJ (fun m gs D => ∃ (gx10 : Int), gs = [(1, pt b1 0), (3, .func (.func 29) #[] #[pt b1 0]), (4, .int .i64 x18.Tx), (6, pt b19 0), (25, u0_0), (26, .int .i64 (a0.Tales.length : Int)), (27, .int .i64 gx8), (46, gv (q0_0 gx8.toNat) 0), (47, .int .i64 (x18.Reads.length : Int)), (48, .int .i64 gx10)] ∧ D = Cls w [] [.obj b19 [.int .i64 x18.Tx, gv (q0_0 gx8.toNat) 0] 41, .obj b1 [u0_0, u0_2] 27, .os []] ∧ m14_quirref_StoryErr_L5 x18 a0 gx8 go4 m gx10 = some r) ⟨0, rfl, rfl, h⟩ ⟨rfl, rfl, rfl, rfl, rfl, rfl, rfl, rfl, rfl, rfl, trivial⟩ (fun _ hw => hw) ?_)))
        rintro m _ _ ⟨gx10, rfl, rfl, h⟩
        rcases m with _ | m
        · rw [m14_quirref_StoryErr_L5] at h; cases h
        rw [m14_quirref_StoryErr_L5] at h
        generalize hg5 : m14_quirref_StoryErr_L5 x18 a0 gx8 go4 m = go5 at h
        rw [m14_quirref_StoryErr_L5B] at h
        refine W.seq (W.region (L.ite h rfl (Y.lss rfl rfl) (fun c20 h => ?_) (fun c20 h => ?_)))
        ·
         refine L.nil (E.thenN (W.seq (W.condT rfl ?_)))
         refine W.skip (E.thenN (W.seq (W.block (W.seq (W.region (L.m (V := fun _ => el (gv (q0_0 gx8.toNat) 0) (gx10.toNat * 2)) h rfl (Y.indexM (g := TGot.row) (l := x18.Reads) Try.underlying39 sz45 rfl rfl (fun w' hw => (((FzA.at (sds := TTale.sds) (vs := q0_0) (j := 0) (nl := 1) hD0_0 (fun _ _ => rfl) ex18 rfl).up).clsP hK hw rfl))) (fun x21 ex21 h => ?_)))))))
         refine L.y rfl (Y.loadEN (r := [.int .i64 x21.Item, .int .i64 x21.From]) ag45 sz45 rfl (fun w' hw => (((FzA.at (sds := TTale.sds) (vs := q0_0) (j := 0) (nl := 1) hD0_0 (fun _ _ => rfl) ex18 rfl).up).clsP hK hw rfl)) (idx_map ex21) rfl) ?_
         refine L.alloc rfl ze45 ?_
         intro b22
         refine L.store (i := 0) (vs := [.int .i64 x21.Item, .int .i64 x21.From]) sz45 rfl rfl rfl rfl (by simp [Value.oneCell', Value.cells, st, pt, el]) rfl (Nat.le_of_ble_eq_true rfl) ?_
         refine L.nil (E.thenN (W.seqJ (fun gs D => gs = [(1, pt b1 0), (3, .func (.func 29) #[] #[pt b1 0]), (4, .int .i64 x18.Tx), (6, pt b19 0), (8, pt b22 0), (25, u0_0), (26, .int .i64 (a0.Tales.length : Int)), (27, .int .i64 gx8), (46, gv (q0_0 gx8.toNat) 0), (47, .int .i64 (x18.Reads.length : Int)), (48, .int .i64 gx10)] ∧ D = Cls w [] [.obj b22 [.int .i64 x21.Item, .int .i64 x21.From] 45, .obj b19 [.int .i64 x18.Tx, gv (q0_0 gx8.toNat) 0] 41, .obj b1 [u0_0, u0_2] 27, .os []] ∧ m14_quirref_StoryErr_K13 x21 a0 gx10 go5 = some r) ?_ ?_))
         ·
          refine W.seq (W.region (L.cutJ 11 (fun gs D => ∃ (gb11 : Bool), gs = [(1, pt b1 0), (3, .func (.func 29) #[] #[pt b1 0]), (4, .int .i64 x18.Tx), (6, pt b19 0), (8, pt b22 0), (25, u0_0), (26, .int .i64 (a0.Tales.length : Int)), (27, .int .i64 gx8), (46, gv (q0_0 gx8.toNat) 0), (47, .int .i64 (x18.Reads.length : Int)), (48, .int .i64 gx10), (62, .bool gb11)] ∧ D = Cls w [] [.obj b22 [.int .i64 x21.Item, .int .i64 x21.From] 45, .obj b19 [.int .i64 x18.Tx, gv (q0_0 gx8.toNat) 0] 41, .obj b1 [u0_0, u0_2] 27, .os []] ∧ m14_quirref_StoryErr_K14 x21 x18 a0 gx10 go5 gb11 = some r) ?_ ?_))
          ·
           refine L.y rfl (Y.fieldP fd45_0 rfl) ?_
           refine L.y rfl (Y.loadP (i := 0) ag3 rfl rfl rfl) ?_
           refine L.ite h rfl (Y.lss rfl rfl) (fun c30 h => ?_) (fun c30 h => ?_)
           ·
            refine L.y rfl (Y.move rfl) ?_
            refine L.pass rfl rfl (by nofun) ?_
            refine L.pass rfl rfl (by nofun) ?_
            refine L.pass rfl rfl (by nofun) ?_
            refine L.pass rfl rfl (by nofun) ?_
            refine L.pass rfl rfl (by nofun) ?_
            refine L.pass rfl rfl (by nofun) ?_
            refine L.y rfl (Y.pickT rfl rfl) ?_
            exact L.nil (E.joinJ ⟨true, rfl, rfl, h⟩ ⟨rfl, rfl, rfl, rfl, rfl, rfl, rfl, rfl, rfl, rfl, rfl, rfl, trivial⟩ (fun _ hw => hw))
           ·
            refine L.y rfl (Y.move rfl) ?_
            refine L.take rfl (L.y rfl (Y.fieldP fd45_0 rfl) ?_)
            refine L.take rfl (L.y rfl (Y.loadP (i := 0) ag3 rfl rfl rfl) ?_)
            refine L.take rfl (L.y rfl (Y.fieldP fd27_1 rfl) ?_)
            refine L.take rfl (L.y rfl (Y.loadP (i := 2) ag25 rfl rfl rfl) ?_)
            refine L.take rfl (L.y rfl (Y.lenMZ (row := svRow) (vs := q0_2) (l := a0.Versions) Try.underlying25 rfl (fun w' hw => (hA0_2.up.clsP hK hw rfl))) ?_)
            refine L.take rfl (L.ite h rfl (Y.geq rfl rfl) (fun c31 h => ?_) (fun c31 h => ?_))
            ·
             refine L.y rfl (Y.pickF rfl rfl) ?_
             exact L.nil (E.joinJ ⟨true, rfl, rfl, h⟩ ⟨rfl, rfl, rfl, rfl, rfl, rfl, rfl, rfl, rfl, rfl, rfl, rfl, trivial⟩ (fun _ hw => hw))
            ·
             refine L.y rfl (Y.pickF rfl rfl) ?_
             exact L.nil (E.joinJ ⟨false, rfl, rfl, h⟩ ⟨rfl, rfl, rfl, rfl, rfl, rfl, rfl, rfl, rfl, rfl, rfl, rfl, trivial⟩ (fun _ hw => hw))
          ·
           rintro _ _ ⟨gb11, rfl, rfl, h⟩
           rw [m14_quirref_StoryErr_K14] at h
           rcases gb11 with _ | _
           ·
            replace h := iteF h
            refine L.y rfl (Y.move rfl) ?_
            refine L.take rfl (L.y rfl (Y.fieldP fd45_1 rfl) ?_)
            refine L.take rfl (L.y rfl (Y.loadP (i := 0) ag3 rfl rfl rfl) ?_)
            refine L.take rfl (L.y rfl (Y.fieldP fd41_0 rfl) ?_)
            refine L.take rfl (L.y rfl (Y.loadP (i := 1) ag3 rfl rfl rfl) ?_)
            refine L.take rfl (L.ite h rfl (Y.eql rfl rfl) (fun c29 h => ?_) (fun c29 h => ?_))
            ·
             refine L.y rfl (Y.pickF rfl rfl) ?_
             refine L.nil (E.thenN (W.condT rfl ?_))
             refine W.seq (W.region (L.y rfl (Y.assign rfl) ?_))
             refine L.nil (E.thenN (W.ret (E.KSR (E.blockR (E.thenR (E.KLR (E.blockR (E.blockR (E.KSR (E.KLR (E.blockR (E.KSR (E.ret1 rfl rfl (fun w1 hw => ?_))))))))))))))
             obtain rfl := Option.some.inj h
             exact ⟨_, _, rfl, ⟨rfl, rfl⟩, hw.sel [] (by decide) rfl⟩
            ·
             refine L.y rfl (Y.pickF rfl rfl) ?_
             refine L.nil (E.thenN (W.condF rfl ?_))
             exact W.skip (E.joinJ ⟨rfl, rfl, h⟩ ⟨rfl, rfl, rfl, rfl, rfl, rfl, rfl, rfl, rfl, rfl, rfl, trivial⟩ (fun _ hw => hw))
           ·
            replace h := iteT h
            refine L.y rfl (Y.move rfl) ?_
            refine L.pass rfl rfl (by nofun) ?_
            refine L.pass rfl rfl (by nofun) ?_
            refine L.pass rfl rfl (by nofun) ?_
            refine L.pass rfl rfl (by nofun) ?_
            refine L.pass rfl rfl (by nofun) ?_
            refine L.y rfl (Y.pickT rfl rfl) ?_
            refine L.nil (E.thenN (W.condT rfl ?_))
            refine W.seq (W.region (L.y rfl (Y.assign rfl) ?_))
            refine L.nil (E.thenN (W.ret (E.KSR (E.blockR (E.thenR (E.KLR (E.blockR (E.blockR (E.KSR (E.KLR (E.blockR (E.KSR (E.ret1 rfl rfl (fun w1 hw => ?_))))))))))))))
            obtain rfl := Option.some.inj h
            exact ⟨_, _, rfl, ⟨rfl, rfl⟩, hw.sel [] (by decide) rfl⟩
         ·
          rintro _ _ ⟨rfl, rfl, h⟩
          rw [m14_quirref_StoryErr_K13] at h
          refine W.seq (W.quietC mixed (by kernel_rfl) (fun _ hw => hw.drew) (fun hC => ?_))
          refine U.y rfl (Y.fieldP fd45_1 rfl) ?_
          refine U.y rfl (Y.loadP (i := 0) ag3 rfl rfl rfl) ?_
          refine U.ite h rfl (Y.neq rfl rfl) (fun c23 h => ?_) (fun c23 h => ?_)
          ·
           refine U.y rfl (Y.move rfl) ?_
           refine U.take rfl (U.y rfl (Y.fieldP fd27_1 rfl) ?_)
           refine U.take rfl (U.y rfl (Y.loadP (i := 2) ag25 rfl rfl rfl) ?_)
           refine U.take rfl (U.y rfl (Y.fieldP fd45_0 rfl) ?_)
           refine U.take rfl (U.y rfl (Y.loadP (i := 0) ag3 rfl rfl rfl) ?_)
           refine U.take rfl (U.m (V := fun _ => el u0_2 (x21.Item.toNat * 1)) h rfl (Y.indexMZ (row := svRow) (vs := q0_2) (l := a0.Versions) Try.underlying25 sz34 rfl rfl (fun w' hw => (hA0_2.up.clsP hK hw rfl))) (fun x24 ex24 h => ?_))
           refine U.take rfl (U.y rfl (Y.loadE1 (u := gv (q0_2 x21.Item.toNat) 0) ag34 rfl (fun w' hw => (hA0_2.up.clsP hK hw rfl)) (zr_idx (vs := q0_2) ex24)) ?_)
           refine U.take rfl (U.y rfl (Y.fieldP fd45_1 rfl) ?_)
           refine U.take rfl (U.y rfl (Y.loadP (i := 0) ag3 rfl rfl rfl) ?_)
           refine U.take rfl ?_
           obtain ⟨b25, e26, h⟩ := bind1S h
           refine U.y rfl (Y.does en7 rfl (fun w' hw => (w7_slices_Contains_int x24 x21.From (gv (q0_2 x21.Item.toNat) 0) w' _ e26 (((FzA.at (sds := (svSd 3 1 I)) (vs := q0_2) (j := 0) (nl := 1) hD0_2 (fun _ _ => rfl) ex24 rfl).up).clsP hK hw rfl)).mono (fun _ _ h => h.1))) ?_
           rcases b25 with _ | _
           ·
            replace h := iteF h
            refine U.take rfl (U.y rfl (Y.not rfl) ?_)
            refine U.y rfl (Y.pickT rfl rfl) ?_
            refine U.nil (E.thenN (W.condT rfl ?_))
            refine W.seq (W.region (L.y rfl (Y.assign rfl) ?_))
            refine L.nil (E.thenN (W.ret (E.blockR (E.thenR (E.KLR (E.blockR (E.blockR (E.KSR (E.KLR (E.blockR (E.KSR (E.ret1 rfl rfl (fun w1 hw => ?_)))))))))))))
            obtain rfl := Option.some.inj h
            exact ⟨_, _, rfl, ⟨rfl, rfl⟩, hw.sel [] (by decide) rfl⟩
           ·
            replace h := iteT h
            refine U.take rfl (U.y rfl (Y.not rfl) ?_)
            refine U.y rfl (Y.pickT rfl rfl) ?_
            refine U.nil (E.thenN (W.condF rfl ?_))
            refine W.skip (E.blockN (E.thenN (W.region (L.m (V := fun x27 => .int .i64 x27) h rfl (Y.addM rfl rfl) (fun x27 ex27 h => ?_)))))
            refine L.y rfl (Y.move rfl) ?_
            exact L.nil (E.againJ ⟨x27, rfl, rfl, by rw [hg5]; exact h⟩ (Nat.lt_succ_self _) ⟨rfl, rfl, rfl, rfl, rfl, rfl, rfl, rfl, rfl, rfl, trivial⟩ (fun _ hw => hw.sel [1, 2, 3] (by decide) rfl))
          ·
           refine U.y rfl (Y.move rfl) ?_
           refine U.pass rfl rfl (by nofun) ?_
           refine U.pass rfl rfl (by nofun) ?_
           refine U.pass rfl rfl (by nofun) ?_
           refine U.pass rfl rfl (by nofun) ?_
           refine U.pass rfl rfl (by nofun) ?_
           refine U.pass rfl rfl (by nofun) ?_
           refine U.pass rfl rfl (by nofun) ?_
           refine U.pass rfl rfl (by nofun) ?_
           refine U.pass rfl rfl (by nofun) ?_
           refine U.pass rfl rfl (by nofun) ?_
           refine U.y rfl (Y.pickF rfl rfl) ?_
           refine U.nil (E.thenN (W.condF rfl ?_))
           refine W.skip (E.blockN (E.thenN (W.region (L.m (V := fun x28 => .int .i64 x28) h rfl (Y.addM rfl rfl) (fun x28 ex28 h => ?_)))))
           refine L.y rfl (Y.move rfl) ?_
           exact L.nil (E.againJ ⟨x28, rfl, rfl, by rw [hg5]; exact h⟩ (Nat.lt_succ_self _) ⟨rfl, rfl, rfl, rfl, rfl, rfl, rfl, rfl, rfl, rfl, trivial⟩ (fun _ hw => hw.sel [1, 2, 3] (by decide) rfl))
        ·
         refine L.nil (E.thenN (W.seq (W.condF rfl ?_)))
         exact W.exit (E.thenX (E.KLX (E.blockX (E.blockN (E.joinJ ⟨x18.Tx, rfl, rfl, h⟩ ⟨rfl, rfl, rfl, rfl, rfl, rfl, trivial⟩ (fun _ hw => hw.sel [1, 2] (by decide) rfl))))))
     ·
      rintro _ _ ⟨gx9, rfl, rfl, h⟩
      rw [m14_quirref_StoryErr_K10] at h
      refine W.region (L.m (V := fun x17 => .int .i64 x17) h rfl (Y.addM rfl rfl) (fun x17 ex17 h => ?_))
      refine L.y rfl (Y.move rfl) ?_
      exact L.nil (E.againJ ⟨gx9, x17, rfl, rfl, by rw [hg4]; exact h⟩ (Nat.lt_succ_self _) ⟨rfl, rfl, rfl, rfl, rfl, rfl, trivial⟩ (fun _ hw => hw))
    ·
     refine L.nil (E.thenN (W.seq (W.condF rfl ?_)))
     exact W.exit (E.thenX (E.KLX (E.blockX (E.joinJ ⟨rfl, rfl, h⟩ ⟨rfl, rfl, trivial⟩ (fun _ hw => hw)))))
   ·
    rintro _ _ ⟨rfl, rfl, h⟩
    rw [m14_quirref_StoryErr_K2] at h
    refine W.seqJ (fun gs D => gs = [] ∧ D = Cls w [] [.os []] ∧ m14_quirref_StoryErr_K3 = some r) ?_ ?_
    ·
     refine W.seq (W.region (L.y rfl (Y.fieldP fd27_1 rfl) ?_))
     refine L.y rfl (Y.loadP (i := 0) ag25 rfl rfl rfl) ?_
     refine L.y rfl (Y.lenMZ (row := svRow) (vs := q0_2) (l := a0.Versions) Try.underlying25 rfl (fun w' hw => (hA0_2.up.clsP hK hw rfl))) ?_
     refine L.y rfl (Y.move rfl) ?_
     refine L.nil (E.thenN (W.block (W.loopJ (fun m gs D => ∃ (gx1 : Int), gs = [(3, .func (.func 29) #[] #[pt b1 0]), (88, u0_2), (89, .int .i64 (a0.Versions.length : Int)), (90, .int .i64 gx1)] ∧ D = Cls w [] [.obj b1 [u0_0, u0_2] 27, .os []] ∧ m14_quirref_StoryErr_L1 a0 m gx1 = some r) ⟨0, rfl, rfl, h⟩ ⟨rfl, rfl, rfl, rfl, trivial⟩ (fun _ hw => hw) ?_)))
     rintro m _ _ ⟨gx1, rfl, rfl, h⟩
     rcases m with _ | m
     · rw [m14_quirref_StoryErr_L1] at h; cases h
     rw [m14_quirref_StoryErr_L1] at h
     generalize hg1 : m14_quirref_StoryErr_L1 a0 m = go1 at h
     rw [m14_quirref_StoryErr_L1B] at h
     refine W.seq (W.region (L.ite h rfl (Y.lss rfl rfl) (fun c2 h => ?_) (fun c2 h => ?_)))
     ·
      refine L.nil (E.thenN (W.seq (W.condT rfl ?_)))
      refine W.skip (E.thenN (W.seqJ (fun gs D => gs = [(3, .func (.func 29) #[] #[pt b1 0]), (88, u0_2), (89, .int .i64 (a0.Versions.length : Int)), (90, .int .i64 gx1)] ∧ D = Cls w [] [.obj b1 [u0_0, u0_2] 27, .os []] ∧ m14_quirref_StoryErr_K4 gx1 go1 = some r) ?_ ?_))
      ·
       refine W.block (W.seq (W.region (L.m (V := fun _ => el u0_2 (gx1.toNat * 1)) h rfl (Y.indexMZ (row := svRow) (vs := q0_2) (l := a0.Versions) Try.underlying25 sz34 rfl rfl (fun w' hw => (hA0_2.up.clsP hK hw rfl))) (fun x4 ex4 h => ?_))))
       refine L.y rfl (Y.loadE1 (u := gv (q0_2 gx1.toNat) 0) ag34 rfl (fun w' hw => (hA0_2.up.clsP hK hw rfl)) (zr_idx (vs := q0_2) ex4)) ?_
       refine L.y rfl (Y.assign rfl) ?_
       refine L.nil (E.thenN (W.seq (W.region (L.y rfl (Y.move rfl) ?_))))
       refine L.y rfl (Y.lenM (g := I) (l := x4) Try.underlying34 rfl (fun w' hw => (((FzA.at (sds := (svSd 3 1 I)) (vs := q0_2) (j := 0) (nl := 1) hD0_2 (fun _ _ => rfl) ex4 rfl).up).clsP hK hw rfl))) ?_
       refine L.y rfl (Y.move rfl) ?_
       refine L.nil (E.thenN (W.block (W.loopJ (fun m gs D => ∃ (gx2 : Int), gs = [(3, .func (.func 29) #[] #[pt b1 0]), (10, gv (q0_2 gx1.toNat) 0), (88, u0_2), (89, .int .i64 (a0.Versions.length : Int)), (90, .int .i64 gx1), (94, gv (q0_2 gx1.toNat) 0), (95, .int .i64 (x4.length : Int)), (96, .int .i64 gx2)] ∧ D = Cls w [] [.obj b1 [u0_0, u0_2] 27, .os []] ∧ m14_quirref_StoryErr_L2 x4 a0 gx1 go1 m gx2 = some r) ⟨0, rfl, rfl, h⟩ ⟨rfl, rfl, rfl, rfl, rfl, rfl, rfl, rfl, trivial⟩ (fun _ hw => hw) ?_)))
       rintro m _ _ ⟨gx2, rfl, rfl, h⟩
       rcases m with _ | m
       · rw [m14_quirref_StoryErr_L2] at h; cases h
       rw [m14_quirref_StoryErr_L2] at h
       generalize hg2 : m14_quirref_StoryErr_L2 x4 a0 gx1 go1 m = go2 at h
       rw [m14_quirref_StoryErr_L2B] at h
       refine W.seq (W.region (L.ite h rfl (Y.lss rfl rfl) (fun c5 h => ?_) (fun c5 h => ?_)))
       ·
        refine L.nil (E.thenN (W.seq (W.condT rfl ?_)))
        refine W.skip (E.thenN (W.seq (W.block (W.seq (W.region (L.y rfl (Y.move rfl) ?_))))))
        refine L.m (V := fun _ => el (gv (q0_2 gx1.toNat) 0) (gx2.toNat * 1)) h rfl (Y.indexM (g := I) (l := x4) Try.underlying34 sz3 rfl rfl (fun w' hw => (((FzA.at (sds := (svSd 3 1 I)) (vs := q0_2) (j := 0) (nl := 1) hD0_2 (fun _ _ => rfl) ex4 rfl).up).clsP hK hw rfl))) (fun x6 ex6 h => ?_)
        refine L.y rfl (Y.loadE1 (u := .int .i64 x6) ag3 rfl (fun w' hw => (((FzA.at (sds := (svSd 3 1 I)) (vs := q0_2) (j := 0) (nl := 1) hD0_2 (fun _ _ => rfl) ex4 rfl).up).clsP hK hw rfl)) (idx_map ex6)) ?_
        refine L.y rfl (Y.assign rfl) ?_
        refine L.y rfl (Y.assign rfl) ?_
        refine L.nil (E.thenN (W.seq (W.region (L.y rfl (Y.move rfl) ?_))))
        refine L.y rfl (Y.move rfl) ?_
        refine L.callVJ (fun v D => ∃ (gb3 : Bool), v = .bool gb3 ∧ D = Cls w [] [.obj b1 [u0_0, u0_2] 27, .os []] ∧ m14_quirref_StoryErr_K5 x4 x6 gx2 go2 gb3 = some r) rfl en29 rfl rfl Try.func29 rfl rfl rfl ?_ ?_
        ·
         refine W.seq (W.region (L.box rfl rfl ?_))
         intro b11
         refine L.y rfl (Y.assign rfl) ?_
         refine L.nil (E.thenN (W.seq (W.region (L.y rfl (Y.fieldP fd27_0 rfl) ?_))))
         refine L.y rfl (Y.loadP (i := 1) ag24 rfl rfl rfl) ?_
         refine L.y rfl (Y.func rfl) ?_
         refine L.callJ (fun v D => ∃ (gb4 : Bool), v = .bool gb4 ∧ D = Cls w [] [.obj b1 [u0_0, u0_2] 27, .os []] ∧ m14_quirref_StoryErr_K6 x4 x6 gx2 go2 gb4 = some r) rfl en24 rfl Try.func24 rfl rfl rfl ?_ ?_
         ·
          refine W.seq (W.region (L.y rfl (Y.assign rfl) ?_))
          refine L.nil (E.thenN (W.seq (W.region (L.y rfl (Y.move rfl) ?_))))
          refine L.y rfl (Y.move rfl) ?_
          refine L.callJ (fun v D => ∃ (gx5 : Int), v = .int .i64 gx5 ∧ D = Cls w [] [.obj b1 [u0_0, u0_2] 27, .os []] ∧ m14_quirref_StoryErr_K7 x4 x6 gx2 go2 gx5 = some r) rfl en41 rfl Try.func41 rfl rfl rfl ?_ ?_
          ·
           refine W.seq (W.region (L.y rfl (Y.assign rfl) ?_))
           refine L.nil (E.thenN (W.seqJ (fun gs D => gs = [] ∧ D = Cls w [] [.obj b1 [u0_0, u0_2] 27, .os []] ∧ m14_quirref_StoryErr_K8 x4 x6 gx2 go2 = some r) ?_ ?_))
           ·
            refine W.seq (W.region (L.y rfl (Y.move rfl) ?_))
            refine L.y rfl (Y.lenMZ (row := TTale.rowv) (vs := q0_0) (l := a0.Tales) Try.underlying24 rfl (fun w' hw => (hA0_0.up.clsP hK hw rfl))) ?_
            refine L.y rfl (Y.move rfl) ?_
            refine L.nil (E.thenN (W.block (W.loopJ (fun m gs D => ∃ (gx6 : Int), gs = [(0, u0_0), (1, .func (.func 30) #[] #[pt b11 0]), (7, .int .i64 (a0.Tales.length : Int)), (8, .int .i64 gx6)] ∧ D = Cls w [] [.obj b11 [.int .i64 x6] 3, .obj b1 [u0_0, u0_2] 27, .os []] ∧ m14_quirref_StoryErr_L3 a0 x6 x4 gx2 go2 m gx6 = some r) ⟨0, rfl, rfl, h⟩ ⟨rfl, rfl, rfl, rfl, trivial⟩ (fun _ hw => hw) ?_)))
            rintro m _ _ ⟨gx6, rfl, rfl, h⟩
            rcases m with _ | m
            · rw [m14_quirref_StoryErr_L3] at h; cases h
            rw [m14_quirref_StoryErr_L3] at h
            generalize hg3 : m14_quirref_StoryErr_L3 a0 x6 x4 gx2 go2 m = go3 at h
            rw [m14_quirref_StoryErr_L3B] at h
            refine W.seq (W.region (L.ite h rfl (Y.lss rfl rfl) (fun c12 h => ?_) (fun c12 h => ?_)))
            ·
             refine L.nil (E.thenN (W.seq (W.condT rfl ?_)))
             refine W.skip (E.thenN (W.seq (W.block (W.seq (W.region (L.y rfl (Y.move rfl) ?_))))))
             refine L.y rfl (Y.assign rfl) ?_
             refine L.nil (E.thenN (W.seq (W.region (L.y rfl (Y.move rfl) ?_))))
             refine L.y rfl (Y.move rfl) ?_
             refine L.y rfl (Y.move rfl) ?_
             refine L.m (V := fun _ => el u0_0 (gx6.toNat * 2)) h rfl (Y.indexMZ (row := TTale.rowv) (vs := q0_0) (l := a0.Tales) Try.underlying24 sz41 rfl rfl (fun w' hw => (hA0_0.up.clsP hK hw rfl))) (fun x13 ex13 h => ?_)
             refine L.y rfl (Y.loadEN (r := [.int .i64 x13.Tx, gv (q0_0 gx6.toNat) 0]) ag41 sz41 rfl (fun w' hw => (hA0_0.up.clsP hK hw rfl)) (zr_idx (vs := q0_0) ex13) rfl) ?_
             refine L.callVJ (fun v D => v = .bool (decide (x13.Tx = x6)) ∧ D = Cls w [] [.obj b11 [.int .i64 x6] 3, .obj b1 [u0_0, u0_2] 27, .os []] ∧ m14_quirref_StoryErr_K9 x13 x6 x4 gx2 go2 gx6 go3 = some r) rfl en30 rfl rfl Try.func30 rfl rfl rfl ?_ ?_
             ·
              refine W.seq (W.region (L.box rfl rfl ?_))
              intro b15
              refine L.y rfl (Y.assign rfl) ?_
              refine L.nil (E.thenN (W.seq (W.region (L.y rfl (Y.fieldP fd41_0 rfl) ?_))))
              refine L.y rfl (Y.loadP (i := 0) ag3 rfl rfl rfl) ?_
              refine L.y rfl (Y.loadP (i := 1) ag3 rfl rfl rfl) ?_
              refine L.y rfl (Y.eql rfl rfl) ?_
              refine L.y rfl (Y.assign rfl) ?_
              refine L.nil (E.thenN (W.ret (E.ret1 rfl rfl (fun w1 hw => ?_))))
              exact ⟨_, _, rfl, ⟨rfl, rfl, h⟩, hw.sel [1, 2, 3] (by decide) rfl⟩
             ·
              rintro _ _ ⟨rfl, rfl, h⟩
              rw [m14_quirref_StoryErr_K9] at h
              refine L.nil (E.thenN (W.caseB (q := 16) h rfl (fun h => ?_) (fun h => ?_)))
              ·
               refine W.condT rfl ?_
               refine W.seq (W.region (L.y rfl (Y.move rfl) ?_))
               refine L.y rfl (Y.assign rfl) ?_
               refine L.nil (E.thenN (W.ret (E.blockR (E.thenR (E.KLR (E.blockR (E.KSR (E.ret1 rfl rfl (fun w1 hw => ?_)))))))))
               exact ⟨_, _, rfl, ⟨gx6, rfl, rfl, h⟩, hw.sel [1, 2] (by decide) rfl⟩
              ·
               refine W.condF rfl ?_
               refine W.skip (E.blockN (E.thenN (W.region (L.m (V := fun x14 => .int .i64 x14) h rfl (Y.addM rfl rfl) (fun x14 ex14 h => ?_)))))
               refine L.y rfl (Y.move rfl) ?_
               exact L.nil (E.againJ ⟨x14, rfl, rfl, by rw [hg3]; exact h⟩ (Nat.lt_succ_self _) ⟨rfl, rfl, rfl, rfl, trivial⟩ (fun _ hw => hw))
            ·
             refine L.nil (E.thenN (W.seq (W.condF rfl ?_)))
             exact W.exit (E.thenX (E.KLX (E.blockX (E.joinJ ⟨rfl, rfl, h⟩ trivial (fun _ hw => hw.sel [1, 2] (by decide) rfl)))))
           ·
            rintro _ _ ⟨rfl, rfl, h⟩
            rw [m14_quirref_StoryErr_K8] at h
            refine W.seq (W.region (L.y rfl (Y.assign rfl) ?_))
            refine L.nil (E.thenN (W.ret (E.ret1 rfl rfl (fun w1 hw => ?_))))
            exact ⟨_, _, rfl, ⟨(-1), rfl, rfl, h⟩, hw⟩
          ·
           rintro _ _ ⟨gx5, rfl, rfl, h⟩
           rw [m14_quirref_StoryErr_K7] at h
           refine L.y rfl (Y.geq rfl rfl) ?_
           refine L.y rfl (Y.assign rfl) ?_
           refine L.nil (E.thenN (W.ret (E.ret1 rfl rfl (fun w1 hw => ?_))))
           exact ⟨_, _, rfl, ⟨decide (0 ≤ gx5), rfl, rfl, h⟩, hw⟩
         ·
          rintro _ _ ⟨gb4, rfl, rfl, h⟩
          rw [m14_quirref_StoryErr_K6] at h
          refine L.y rfl (Y.assign rfl) ?_
          refine L.nil (E.thenN (W.ret (E.ret1 rfl rfl (fun w1 hw => ?_))))
          exact ⟨_, _, rfl, ⟨gb4, rfl, rfl, h⟩, hw⟩
        ·
         rintro _ _ ⟨gb3, rfl, rfl, h⟩
         rw [m14_quirref_StoryErr_K5] at h
         rcases gb3 with _ | _
         ·
          replace h := iteF h
          refine L.y rfl (Y.not rfl) ?_
          refine L.y rfl (Y.move rfl) ?_
          refine L.pass rfl rfl (by nofun) ?_
          refine L.pass rfl rfl (by nofun) ?_
          refine L.pass rfl rfl (by nofun) ?_
          refine L.pass rfl rfl (by nofun) ?_
          refine L.pass rfl rfl (by nofun) ?_
          refine L.y rfl (Y.pickT rfl rfl) ?_
          refine L.nil (E.thenN (W.condT rfl ?_))
          refine W.seq (W.region (L.y rfl (Y.assign rfl) ?_))
          refine L.nil (E.thenN (W.ret (E.blockR (E.thenR (E.KLR (E.blockR (E.blockR (E.KSR (E.KLR (E.blockR (E.KSR (E.ret1 rfl rfl (fun w1 hw => ?_)))))))))))))
          obtain rfl := Option.some.inj h
          exact ⟨_, _, rfl, ⟨rfl, rfl⟩, hw.sel [] (by decide) rfl⟩
         ·
          replace h := iteT h
          refine L.y rfl (Y.not rfl) ?_
          refine L.y rfl (Y.move rfl) ?_
          refine L.take rfl (L.y rfl (Y.move rfl) ?_)
          refine L.take rfl (L.y rfl (Y.move rfl) ?_)
          refine L.take rfl ?_
          obtain ⟨x7, e8, h⟩ := bind1S h
          refine L.y rfl (Y.does en20 rfl (fun w' hw => (w20_slices_Index_int x4 x6 (gv (q0_2 gx1.toNat) 0) w' _ e8 (((FzA.at (sds := (svSd 3 1 I)) (vs := q0_2) (j := 0) (nl := 1) hD0_2 (fun _ _ => rfl) ex4 rfl).up).clsP hK hw rfl)).mono (fun _ _ h => h.1))) ?_
          refine L.take rfl (L.y rfl (Y.move rfl) ?_)
          refine L.take rfl (L.ite h rfl (Y.neq rfl rfl) (fun c9 h => ?_) (fun c9 h => ?_))
          ·
           refine L.y rfl (Y.pickF rfl rfl) ?_
           refine L.nil (E.thenN (W.condT rfl ?_))
           refine W.seq (W.region (L.y rfl (Y.assign rfl) ?_))
           refine L.nil (E.thenN (W.ret (E.blockR (E.thenR (E.KLR (E.blockR (E.blockR (E.KSR (E.KLR (E.blockR (E.KSR (E.ret1 rfl rfl (fun w1 hw => ?_)))))))))))))
           obtain rfl := Option.some.inj h
           exact ⟨_, _, rfl, ⟨rfl, rfl⟩, hw.sel [] (by decide) rfl⟩
          ·
           refine L.y rfl (Y.pickF rfl rfl) ?_
           refine L.nil (E.thenN (W.condF rfl ?_))
           refine W.skip (E.blockN (E.thenN (W.region (L.m (V := fun x10 => .int .i64 x10) h rfl (Y.addM rfl rfl) (fun x10 ex10 h => ?_)))))
           refine L.y rfl (Y.move rfl) ?_
           exact L.nil (E.againJ ⟨x10, rfl, rfl, by rw [hg2]; exact h⟩ (Nat.lt_succ_self _) ⟨rfl, rfl, rfl, rfl, rfl, rfl, rfl, rfl, trivial⟩ (fun _ hw => hw))
       ·
        refine L.nil (E.thenN (W.seq (W.condF rfl ?_)))
        exact W.exit (E.thenX (E.KLX (E.blockX (E.blockN (E.joinJ ⟨rfl, rfl, h⟩ ⟨rfl, rfl, rfl, rfl, trivial⟩ (fun _ hw => hw))))))
      ·
       rintro _ _ ⟨rfl, rfl, h⟩
       rw [m14_quirref_StoryErr_K4] at h
       refine W.region (L.m (V := fun x3 => .int .i64 x3) h rfl (Y.addM rfl rfl) (fun x3 ex3 h => ?_))
       refine L.y rfl (Y.move rfl) ?_
       exact L.nil (E.againJ ⟨x3, rfl, rfl, by rw [hg1]; exact h⟩ (Nat.lt_succ_self _) ⟨rfl, rfl, rfl, rfl, trivial⟩ (fun _ hw => hw))
     ·
      refine L.nil (E.thenN (W.seq (W.condF rfl ?_)))
      exact W.exit (E.thenX (E.KLX (E.blockX (E.joinJ ⟨rfl, rfl, h⟩ trivial (fun _ hw => hw.sel [1] (by decide) rfl)))))
    ·
     rintro _ _ ⟨rfl, rfl, h⟩
     rw [m14_quirref_StoryErr_K3] at h
     refine W.seq (W.region (L.y rfl (Y.assign rfl) ?_))
     refine L.nil (E.thenN (W.ret (E.ret1 rfl rfl (fun w1 hw => ?_))))
     obtain rfl := Option.some.inj h
     exact ⟨_, _, rfl, ⟨rfl, rfl⟩, hw.sel [] (by decide) rfl⟩
end Go.Proofs.Ytjdbjcmmdnpeaaa
