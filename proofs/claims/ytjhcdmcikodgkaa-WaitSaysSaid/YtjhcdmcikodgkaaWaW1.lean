/-
  Walks, printed by a program of mine.
  Conditions: none.
-/
import Derived.Test.YtjhcdmcikodgkaaWaM
import Derived.Test.YtjhcdmcikodgkaaChecked
import Derived.KernelRfl
import Derived.Test.YtjhcdmcikodgkaaSo
import Derived.Test.YtjhcdmcikodgkaaGrO
import Derived.Test.YtjhcdmcikodgkaaGrW
namespace Go.Proofs.Ytjhcdmcikodgkaa
open Go.S
set_option linter.unusedVariables false
set_option linter.unusedSimpArgs false
theorem eL46 : elemB Try.prog 46 2 16 = true := by kernel_rfl
theorem en15 : entB Try.prog 15 = true := by kernel_rfl
theorem en16 : entB Try.prog 16 = true := by kernel_rfl
theorem en17 : entB Try.prog 17 = true := by kernel_rfl
theorem en18 : entB Try.prog 18 = true := by kernel_rfl
theorem en19 : entB Try.prog 19 = true := by kernel_rfl
theorem en26 : entB Try.prog 26 = true := by kernel_rfl
theorem en27 : entB Try.prog 27 = true := by kernel_rfl
theorem en28 : entB Try.prog 28 = true := by kernel_rfl
theorem en29 : entB Try.prog 29 = true := by kernel_rfl
theorem en30 : entB Try.prog 30 = true := by kernel_rfl
theorem en32 : entB Try.prog 32 = true := by kernel_rfl
theorem en33 : entB Try.prog 33 = true := by kernel_rfl
theorem en38 : entB Try.prog 38 = true := by kernel_rfl
set_option maxRecDepth 100000 in
set_option maxHeartbeats 8000000 in
set_option maxRecDepth 100000 in
set_option maxHeartbeats 8000000 in
set_option maxRecDepth 100000 in
set_option maxHeartbeats 8000000 in
theorem w26_api_Edge (a0 : (List TEdge)) (u0 : Value) (w : World) (r : (List TEdge)) (h : m26_api_Edge a0 = some r) (hA0 : At w u0 2 (a0.map TEdge.row)) : Does Try.prog 26 [u0] w fun u m => ∃ v0, u = v0 ∧ m = [.sl v0 46 2 (r.map TEdge.row)] := by
  rw [m26_api_Edge] at h
  rcases hA0.shape with ⟨rfl, hn⟩ | ⟨ad, cap, rfl, hl, hm⟩
  ·
   obtain rfl : a0 = [] := by simpa using hn
   replace h : some ([] : List TEdge) = some r := by simpa [app] using h
   refine body (n := 8) Try.func26 rfl rfl rfl (Cls.refl w) ?_
   refine W.seq (W.region (L.y rfl (Y.assign rfl) ?_))
   refine L.nil (E.thenN (W.seq (W.seq (W.region (L.y rfl (Y.move rfl) ?_)))))
   refine L.y rfl (Y.eqlNil Try.underlying22 rfl rfl) ?_
   refine L.nil (E.thenN (W.condT rfl ?_))
   refine W.seq (W.region (L.y rfl (Y.assign rfl) ?_))
   refine L.nil (E.thenN (W.ret (E.thenR (E.ret1 rfl rfl (fun w1 hw => ?_)))))
   obtain rfl := Option.some.inj h
   exact ⟨_, _, rfl, ⟨_, rfl, rfl⟩, (hw.nilSl 46 2)⟩
  ·
   refine body (n := 8) Try.func26 rfl rfl rfl (Cls.refl w) ?_
   refine W.seq (W.region (L.y rfl (Y.assign rfl) ?_))
   refine L.nil (E.thenN (W.seq (W.seq (W.region (L.y rfl (Y.move rfl) ?_)))))
   refine L.y rfl (Y.eqlNil Try.underlying22 rfl rfl) ?_
   refine L.nil (E.thenN (W.condF rfl ?_))
   refine W.skip (E.thenN (W.seq (W.region (L.lit0 rfl Try.underlying22 eL46 ?_))))
   intro b1
   refine L.y rfl (Y.move rfl) ?_
   refine L.appM (i := 0) (g := TEdge.row) (l := []) (more := a0) h rfl Try.underlying22 eL46 rfl rfl rfl (fun w' hw => hA0.cls0 hw) (plain_TEdge _) rfl ?_
   intro v2 l3 el3 h
   refine L.y rfl (Y.assign rfl) ?_
   refine L.nil (E.thenN (W.ret (E.ret1 rfl rfl (fun w1 hw => ?_))))
   obtain rfl := Option.some.inj h
   exact ⟨_, _, rfl, ⟨_, rfl, rfl⟩, hw⟩
set_option maxRecDepth 100000 in
set_option maxHeartbeats 8000000 in
set_option maxRecDepth 100000 in
set_option maxHeartbeats 8000000 in
theorem w15_wait_Dead (a0 : Int) (a1 : (List TEdge)) (u1 : Value) (w : World) (r : ((List Int) × Int)) (h : m15_wait_Dead a0 a1 = some r) (hA1 : At w u1 2 (a1.map TEdge.row)) : Does Try.prog 15 [.int .i64 a0, u1] w fun u m => ∃ v0, u = .tuple #[v0, .int .i64 r.2] ∧ m = [.sl v0 3 1 (r.1.map I)] := by
  rw [m15_wait_Dead] at h
  refine body (n := 64) Try.func15 rfl rfl rfl (Cls.refl w) ?_
  refine W.seq (W.region (L.y rfl (Y.assign rfl) ?_))
  refine L.y rfl (Y.assign rfl) ?_
  refine L.nil (E.thenN (W.seqJ (fun gs D => gs = [(0, .int .i64 a0), (1, u1)] ∧ D = Cls w [] [] ∧ m15_wait_Dead_K1 a0 a1 = some r) ?_ ?_))
  ·
   refine W.seq (W.region (L.y rfl (Y.move rfl) ?_))
   refine L.y rfl (Y.move rfl) ?_
   obtain ⟨x59, e60, h⟩ := bind1S h
   refine L.y rfl (Y.does en9 rfl (fun w' hw => (w9_graph_Check a0 a1 u1 w' _ e60 (hA1.cls0 hw)).mono (fun _ _ h => h.1))) ?_
   refine L.y rfl (Y.assign rfl) ?_
   refine L.nil (E.thenN (W.seq (W.region (L.y rfl (Y.move rfl) ?_))))
   refine L.ite h rfl (Y.neq rfl rfl) (fun c61 h => ?_) (fun c61 h => ?_)
   ·
    refine L.nil (E.thenN (W.condT rfl ?_))
    refine W.seq (W.region (L.y rfl (Y.move rfl) ?_))
    refine L.y rfl (Y.assign rfl) ?_
    refine L.y rfl (Y.assign rfl) ?_
    refine L.nil (E.thenN (W.ret (E.KSR (E.ret2 rfl rfl rfl (fun w1 hw => ?_)))))
    obtain rfl := Option.some.inj h
    exact ⟨_, _, rfl, ⟨_, rfl, rfl⟩, (hw.nilSl 3 1)⟩
   ·
    refine L.nil (E.thenN (W.condF rfl ?_))
    exact W.skip (E.joinJ ⟨rfl, rfl, h⟩ ⟨rfl, rfl, trivial⟩ (fun _ hw => hw))
  ·
   rintro _ _ ⟨rfl, rfl, h⟩
   rw [m15_wait_Dead_K1] at h
   refine W.seq (W.region (L.y rfl (Y.move rfl) ?_))
   obtain ⟨l1, el1, h⟩ := bind1S h
   refine L.makeE (row := I) (z0 := 0) el1 rfl Try.underlying25 eL3 ze3 rfl rfl rfl ?_
   intro b2
   refine L.alloc rfl ze25 ?_
   intro b3
   refine L.storeV (i := 0) sz25 rfl rfl (fun _ hw => (As.at_ (hw.get (i := 1) rfl)).one) rfl (Nat.le_of_ble_eq_true rfl) ?_
   refine L.nil (E.thenN (W.seqJ (fun gs D => ∃ (gl1 : (List Int)), gs = [(1, u1), (7, pt b3 0)] ∧ D = Cls w [] [.obj b3 [(sv b2 a0.toNat)] 25, .sl (sv b2 a0.toNat) 3 1 (gl1.map I)] ∧ m15_wait_Dead_K2 a1 gl1 = some r) ?_ ?_))
   ·
    refine W.seq (W.region (L.y rfl (Y.move rfl) ?_))
    refine L.y rfl (Y.lenM (g := TEdge.row) (l := a1) Try.underlying22 rfl (fun w' hw => hA1.cls0 hw)) ?_
    refine L.y rfl (Y.move rfl) ?_
    refine L.nil (E.thenN (W.block (W.loopJ (fun m gs D => ∃ (gx30 : Int) (gl31 : (List Int)), gs = [(1, u1), (7, pt b3 0), (23, u1), (24, .int .i64 (a1.length : Int)), (25, .int .i64 gx30)] ∧ D = Cls w [] [.obj b3 [(sv b2 a0.toNat)] 25, .sl (sv b2 a0.toNat) 3 1 (gl31.map I)] ∧ m15_wait_Dead_L5 a1 m gx30 gl31 = some r) ⟨0, l1, rfl, rfl, h⟩ ⟨rfl, rfl, rfl, rfl, rfl, trivial⟩ (fun _ hw => hw) ?_)))
    rintro m _ _ ⟨gx30, gl31, rfl, rfl, h⟩
    rcases m with _ | m
    · rw [m15_wait_Dead_L5] at h; cases h
    rw [m15_wait_Dead_L5] at h
    generalize hg5 : m15_wait_Dead_L5 a1 m = go5 at h
    rw [m15_wait_Dead_L5B] at h
    refine W.seq (W.region (L.ite h rfl (Y.lss rfl rfl) (fun c51 h => ?_) (fun c51 h => ?_)))
    ·
     refine L.nil (E.thenN (W.seq (W.condT rfl ?_)))
     refine W.skip (E.thenN (W.seq (W.block (W.seq (W.region (L.m (V := fun _ => el u1 (gx30.toNat * 2)) h rfl (Y.indexM (g := TEdge.row) (l := a1) Try.underlying22 sz46 rfl rfl (fun w' hw => hA1.cls0 hw)) (fun x52 ex52 h => ?_)))))))
     refine L.y rfl (Y.loadEN (r := [.int .i64 x52.From, .int .i64 x52.To]) ag46 sz46 rfl (fun w' hw => hA1.cls0 hw) (idx_map ex52) rfl) ?_
     refine L.alloc rfl ze46 ?_
     intro b53
     refine L.store (i := 0) (vs := [.int .i64 x52.From, .int .i64 x52.To]) sz46 rfl rfl rfl rfl (by simp [Value.oneCell', Value.cells, st, pt, el]) rfl (Nat.le_of_ble_eq_true rfl) ?_
     refine L.nil (E.thenN (W.region (L.y rfl (Y.loadP (i := 1) ag25 rfl rfl rfl) ?_)))
     refine L.y rfl (Y.fieldP fd46_0 rfl) ?_
     refine L.y rfl (Y.loadP (i := 0) ag3 rfl rfl rfl) ?_
     refine L.m (V := fun _ => el (sv b2 a0.toNat) (x52.From.toNat * 1)) h rfl (Y.indexM (g := I) (l := gl31) Try.underlying25 sz3 rfl rfl (fun w hw => As.at_ (hw.get (i := 2) rfl))) (fun x54 ex54 h => ?_)
     refine L.y rfl (Y.loadE1 (u := .int .i64 x54) ag3 rfl (fun w hw => As.at_ (hw.get (i := 2) rfl)) (idx_map ex54)) ?_
     refine L.m (V := fun x55 => .int .i64 x55) h rfl (Y.addM rfl rfl) (fun x55 ex55 h => ?_)
     refine L.m (V := fun _ => el (sv b2 a0.toNat) (x52.From.toNat * 1)) h rfl (Y.indexM (g := I) (l := gl31) Try.underlying25 sz3 rfl rfl (fun w hw => As.at_ (hw.get (i := 2) rfl))) (fun x56 ex56 h => ?_)
     refine L.storeSlM (q := 2) (row := I) (vs := [.int .i64 x55]) (j := 0) (u1 := x55) h sz3 rfl rfl rfl rfl rfl (all1 rfl all0) rfl ex56 rfl rfl ?_
     intro l57 el57 h
     refine L.nil (E.blockN (E.thenN (W.region (L.m (V := fun x58 => .int .i64 x58) h rfl (Y.addM rfl rfl) (fun x58 ex58 h => ?_)))))
     refine L.y rfl (Y.move rfl) ?_
     exact L.nil (E.againJ ⟨x58, l57, rfl, rfl, by rw [hg5]; exact h⟩ (Nat.lt_succ_self _) ⟨rfl, rfl, rfl, rfl, rfl, trivial⟩ (fun _ hw => hw.sel [1, 2] (by decide) rfl))
    ·
     refine L.nil (E.thenN (W.seq (W.condF rfl ?_)))
     exact W.exit (E.thenX (E.KLX (E.blockX (E.joinJ ⟨gl31, rfl, rfl, h⟩ ⟨rfl, rfl, trivial⟩ (fun _ hw => hw)))))
   ·
    rintro _ _ ⟨gl1, rfl, rfl, h⟩
    rw [m15_wait_Dead_K2] at h
    refine W.seq (W.region (L.y rfl (Y.move rfl) ?_))
    obtain ⟨l4, e6, h⟩ := bind1S h
    refine L.does rfl en26 rfl (fun w' hw => w26_api_Edge a1 u1 w' _ e6 (hA1.cls0 hw)) ?_
    rintro v5 _ ⟨_, rfl, rfl⟩
    refine L.y rfl (Y.assign rfl) ?_
    refine L.nil (E.thenN (W.seqJ (fun gs D => ∃ (gl2 : (List Int)), gs = [(7, pt b3 0)] ∧ D = Cls w [] [.obj b3 [(sv b2 a0.toNat)] 25, .sl (sv b2 a0.toNat) 3 1 (gl2.map I)] ∧ m15_wait_Dead_K3 gl2 = some r) ?_ ?_))
    ·
     refine W.block (W.loopJ (fun m gs D => ∃ (gv8 : Value) (gl9 : (List TEdge)) (gl10 : (List Int)), gs = [(7, pt b3 0), (10, gv8)] ∧ D = Cls w [] [.obj b3 [(sv b2 a0.toNat)] 25, .sl gv8 46 2 (gl9.map TEdge.row), .sl (sv b2 a0.toNat) 3 1 (gl10.map I)] ∧ m15_wait_Dead_L2 m gl9 gl10 = some r) ⟨v5, l4, gl1, rfl, rfl, h⟩ ⟨rfl, rfl, trivial⟩ (fun _ hw => hw.sel [1, 0, 2] (by decide) rfl) ?_)
     rintro m _ _ ⟨gv8, gl9, gl10, rfl, rfl, h⟩
     rcases m with _ | m
     · rw [m15_wait_Dead_L2] at h; cases h
     rw [m15_wait_Dead_L2] at h
     generalize hg2 : m15_wait_Dead_L2 m = go2 at h
     rw [m15_wait_Dead_L2B] at h
     refine W.block (W.seq (W.region (L.y rfl (Y.loadP (i := 0) ag25 rfl rfl rfl) ?_)))
     obtain ⟨x15, e16, h⟩ := bind1S h
     refine L.y rfl (Y.does en21 rfl (fun w' hw => (w21_slices_Index_int gl10 0 (sv b2 a0.toNat) w' _ e16 (As.at_ (hw.get (i := 2) rfl))).mono (fun _ _ h => h.1))) ?_
     refine L.alloc rfl ze3 ?_
     intro b17
     refine L.store (i := 0) (vs := [.int .i64 x15]) sz3 rfl rfl rfl rfl (by simp [Value.oneCell', Value.cells, st, pt, el]) rfl (Nat.le_of_ble_eq_true rfl) ?_
     refine L.nil (E.thenN (W.seqJ (fun gs D => gs = [(7, pt b3 0), (10, gv8), (11, pt b17 0)] ∧ D = Cls w [] [.obj b17 [.int .i64 x15] 3, .obj b3 [(sv b2 a0.toNat)] 25, .sl gv8 46 2 (gl9.map TEdge.row), .sl (sv b2 a0.toNat) 3 1 (gl10.map I)] ∧ m15_wait_Dead_K5 gl10 x15 gl9 go2 = some r) ?_ ?_))
     ·
      refine W.seq (W.region (L.y rfl (Y.loadP (i := 0) ag3 rfl rfl rfl) ?_))
      refine L.ite h rfl (Y.lss rfl rfl) (fun c50 h => ?_) (fun c50 h => ?_)
      ·
       refine L.nil (E.thenN (W.condT rfl ?_))
       exact W.exit (E.KSX (E.blockY rfl (E.KLX (E.blockX (E.joinJ ⟨gl10, rfl, rfl, h⟩ ⟨rfl, trivial⟩ (fun _ hw => hw.sel [1, 3] (by decide) rfl))))))
      ·
       refine L.nil (E.thenN (W.condF rfl ?_))
       exact W.skip (E.joinJ ⟨rfl, rfl, h⟩ ⟨rfl, rfl, rfl, trivial⟩ (fun _ hw => hw))
     ·
      rintro _ _ ⟨rfl, rfl, h⟩
      rw [m15_wait_Dead_K5] at h
      refine W.seq (W.region (L.y rfl (Y.loadP (i := 1) ag25 rfl rfl rfl) ?_))
      refine L.y rfl (Y.loadP (i := 0) ag3 rfl rfl rfl) ?_
      refine L.m (V := fun _ => el (sv b2 a0.toNat) (x15.toNat * 1)) h rfl (Y.indexM (g := I) (l := gl10) Try.underlying25 sz3 rfl rfl (fun w hw => As.at_ (hw.get (i := 3) rfl))) (fun x18 ex18 h => ?_)
      refine L.storeSlM (q := 3) (row := I) (vs := [.int .i64 (-1)]) (j := 0) (u1 := (-1)) h sz3 rfl rfl rfl rfl rfl (all1 rfl all0) rfl ex18 rfl rfl ?_
      intro l19 el19 h
      refine L.nil (E.thenN (W.region (L.y rfl (Y.move rfl) ?_)))
      refine L.y rfl (Y.func rfl) ?_
      refine L.callJ (fun v D => ∃ (gv11 : Value) (gl12 : (List TEdge)) (gl13 : (List Int)), v = gv11 ∧ D = Cls w [] [.obj b3 [(sv b2 a0.toNat)] 25, .sl gv11 46 2 (gl12.map TEdge.row), .sl (sv b2 a0.toNat) 3 1 (gl13.map I)] ∧ m15_wait_Dead_K6 go2 gl12 gl13 = some r) rfl en27 rfl Try.func27 rfl rfl rfl ?_ ?_
      ·
       refine W.seq (W.region (L.y rfl (Y.assign rfl) ?_))
       refine L.nil (E.thenN (W.seq (W.region (L.y rfl (Y.move rfl) ?_))))
       refine L.y rfl (Y.move rfl) ?_
       refine L.callJ (fun v D => ∃ (gx14 : Int) (gl15 : (List Int)), v = .int .i64 gx14 ∧ D = Cls w [] [.obj b17 [.int .i64 x15] 3, .obj b3 [(sv b2 a0.toNat)] 25, .sl gv8 46 2 (gl9.map TEdge.row), .sl (sv b2 a0.toNat) 3 1 (gl15.map I)] ∧ m15_wait_Dead_K7 go2 gl9 x15 gx14 gl15 = some r) rfl en38 rfl Try.func38 rfl rfl rfl ?_ ?_
       ·
        refine W.seq (W.region (L.y rfl (Y.assign rfl) ?_))
        refine L.nil (E.thenN (W.seqJ (fun gs D => ∃ (gl25 : (List Int)), gs = [] ∧ D = Cls w [] [.obj b17 [.int .i64 x15] 3, .obj b3 [(sv b2 a0.toNat)] 25, .sl (sv b2 a0.toNat) 3 1 (gl25.map I), .sl gv8 46 2 (gl9.map TEdge.row)] ∧ m15_wait_Dead_K13 go2 gl9 x15 gl25 = some r) ?_ ?_))
        ·
         refine W.seq (W.region (L.y rfl (Y.move rfl) ?_))
         refine L.y rfl (Y.lenM (g := TEdge.row) (l := gl9) Try.underlying22 rfl (fun w hw => As.at_ (hw.get (i := 2) rfl))) ?_
         refine L.y rfl (Y.move rfl) ?_
         refine L.nil (E.thenN (W.block (W.loopJ (fun m gs D => ∃ (gx26 : Int) (gl27 : (List Int)), gs = [(0, gv8), (1, .func (.func 28) #[] #[pt b17 0, pt b3 0]), (7, .int .i64 (gl9.length : Int)), (8, .int .i64 gx26)] ∧ D = Cls w [] [.obj b17 [.int .i64 x15] 3, .obj b3 [(sv b2 a0.toNat)] 25, .sl gv8 46 2 (gl9.map TEdge.row), .sl (sv b2 a0.toNat) 3 1 (gl27.map I)] ∧ m15_wait_Dead_L4 gl9 x15 go2 m gx26 gl27 = some r) ⟨0, l19, rfl, rfl, h⟩ ⟨rfl, rfl, rfl, rfl, trivial⟩ (fun _ hw => hw) ?_)))
         rintro m _ _ ⟨gx26, gl27, rfl, rfl, h⟩
         rcases m with _ | m
         · rw [m15_wait_Dead_L4] at h; cases h
         rw [m15_wait_Dead_L4] at h
         generalize hg4 : m15_wait_Dead_L4 gl9 x15 go2 m = go4 at h
         rw [m15_wait_Dead_L4B] at h
         refine W.seq (W.region (L.ite h rfl (Y.lss rfl rfl) (fun c41 h => ?_) (fun c41 h => ?_)))
         ·
          refine L.nil (E.thenN (W.seq (W.condT rfl ?_)))
          refine W.skip (E.thenN (W.seq (W.block (W.seq (W.region (L.y rfl (Y.move rfl) ?_))))))
          refine L.y rfl (Y.assign rfl) ?_
          refine L.nil (E.thenN (W.seq (W.region (L.y rfl (Y.move rfl) ?_))))
          refine L.y rfl (Y.move rfl) ?_
          refine L.y rfl (Y.move rfl) ?_
          refine L.m (V := fun _ => el gv8 (gx26.toNat * 2)) h rfl (Y.indexM (g := TEdge.row) (l := gl9) Try.underlying22 sz46 rfl rfl (fun w hw => As.at_ (hw.get (i := 2) rfl))) (fun x42 ex42 h => ?_)
          refine L.y rfl (Y.loadEN (r := [.int .i64 x42.From, .int .i64 x42.To]) ag46 sz46 rfl (fun w hw => As.at_ (hw.get (i := 2) rfl)) (idx_map ex42) rfl) ?_
          refine L.callVJ (fun v D => ∃ (gl28 : (List Int)), v = .bool (decide (x42.To = x15)) ∧ D = Cls w [] [.obj b17 [.int .i64 x15] 3, .obj b3 [(sv b2 a0.toNat)] 25, .sl gv8 46 2 (gl9.map TEdge.row), .sl (sv b2 a0.toNat) 3 1 (gl28.map I)] ∧ m15_wait_Dead_K14 x42 x15 go2 gl9 gx26 go4 gl28 = some r) rfl en28 rfl rfl Try.func28 rfl rfl rfl ?_ ?_
          ·
           refine W.seq (W.region (L.box rfl rfl ?_))
           intro b44
           refine L.y rfl (Y.assign rfl) ?_
           refine L.nil (E.thenN (W.seqJ (fun gs D => ∃ (gl29 : (List Int)), gs = [(1, pt b17 0), (3, pt b44 0)] ∧ D = Cls w [] [.obj b44 [.int .i64 x42.From, .int .i64 x42.To] 46, .obj b17 [.int .i64 x15] 3, .obj b3 [(sv b2 a0.toNat)] 25, .sl (sv b2 a0.toNat) 3 1 (gl29.map I), .sl gv8 46 2 (gl9.map TEdge.row)] ∧ m15_wait_Dead_K15 x42 x15 go2 gl9 gx26 go4 gl29 = some r) ?_ ?_))
           ·
            refine W.seq (W.region (L.y rfl (Y.fieldP fd46_1 rfl) ?_))
            refine L.y rfl (Y.loadP (i := 0) ag3 rfl rfl rfl) ?_
            refine L.y rfl (Y.loadP (i := 1) ag3 rfl rfl rfl) ?_
            refine L.ite h rfl (Y.eql rfl rfl) (fun c45 h => ?_) (fun c45 h => ?_)
            ·
             refine L.nil (E.thenN (W.condT rfl ?_))
             refine W.region (L.y rfl (Y.loadP (i := 2) ag25 rfl rfl rfl) ?_)
             refine L.y rfl (Y.fieldP fd46_0 rfl) ?_
             refine L.y rfl (Y.loadP (i := 0) ag3 rfl rfl rfl) ?_
             refine L.m (V := fun _ => el (sv b2 a0.toNat) (x42.From.toNat * 1)) h rfl (Y.indexM (g := I) (l := gl27) Try.underlying25 sz3 rfl rfl (fun w hw => As.at_ (hw.get (i := 4) rfl))) (fun x46 ex46 h => ?_)
             refine L.y rfl (Y.loadE1 (u := .int .i64 x46) ag3 rfl (fun w hw => As.at_ (hw.get (i := 4) rfl)) (idx_map ex46)) ?_
             refine L.m (V := fun x47 => .int .i64 x47) h rfl (Y.subM rfl rfl) (fun x47 ex47 h => ?_)
             refine L.m (V := fun _ => el (sv b2 a0.toNat) (x42.From.toNat * 1)) h rfl (Y.indexM (g := I) (l := gl27) Try.underlying25 sz3 rfl rfl (fun w hw => As.at_ (hw.get (i := 4) rfl))) (fun x48 ex48 h => ?_)
             refine L.storeSlM (q := 4) (row := I) (vs := [.int .i64 x47]) (j := 0) (u1 := x47) h sz3 rfl rfl rfl rfl rfl (all1 rfl all0) rfl ex48 rfl rfl ?_
             intro l49 el49 h
             exact L.nil (E.joinJ ⟨l49, rfl, rfl, h⟩ ⟨rfl, rfl, trivial⟩ (fun _ hw => hw.sel [0, 1, 2, 4, 3] (by decide) rfl))
            ·
             refine L.nil (E.thenN (W.condF rfl ?_))
             exact W.skip (E.joinJ ⟨gl27, rfl, rfl, h⟩ ⟨rfl, rfl, trivial⟩ (fun _ hw => hw.sel [0, 1, 2, 4, 3] (by decide) rfl))
           ·
            rintro _ _ ⟨gl29, rfl, rfl, h⟩
            rw [m15_wait_Dead_K15] at h
            refine W.seq (W.region (L.y rfl (Y.fieldP fd46_1 rfl) ?_))
            refine L.y rfl (Y.loadP (i := 0) ag3 rfl rfl rfl) ?_
            refine L.y rfl (Y.loadP (i := 1) ag3 rfl rfl rfl) ?_
            refine L.y rfl (Y.eql rfl rfl) ?_
            refine L.y rfl (Y.assign rfl) ?_
            refine L.nil (E.thenN (W.ret (E.ret1 rfl rfl (fun w1 hw => ?_))))
            exact ⟨_, _, rfl, ⟨gl29, rfl, rfl, h⟩, hw.sel [1, 2, 4, 3] (by decide) rfl⟩
          ·
           rintro _ _ ⟨gl28, rfl, rfl, h⟩
           rw [m15_wait_Dead_K14] at h
           refine L.nil (E.thenN (W.caseB (q := 16) h rfl (fun h => ?_) (fun h => ?_)))
           ·
            refine W.condT rfl ?_
            refine W.seq (W.region (L.y rfl (Y.move rfl) ?_))
            refine L.y rfl (Y.assign rfl) ?_
            refine L.nil (E.thenN (W.ret (E.blockR (E.thenR (E.KLR (E.blockR (E.KSR (E.ret1 rfl rfl (fun w1 hw => ?_)))))))))
            exact ⟨_, _, rfl, ⟨gx26, gl28, rfl, rfl, h⟩, hw⟩
           ·
            refine W.condF rfl ?_
            refine W.skip (E.blockN (E.thenN (W.region (L.m (V := fun x43 => .int .i64 x43) h rfl (Y.addM rfl rfl) (fun x43 ex43 h => ?_)))))
            refine L.y rfl (Y.move rfl) ?_
            exact L.nil (E.againJ ⟨x43, gl28, rfl, rfl, by rw [hg4]; exact h⟩ (Nat.lt_succ_self _) ⟨rfl, rfl, rfl, rfl, trivial⟩ (fun _ hw => hw))
         ·
          refine L.nil (E.thenN (W.seq (W.condF rfl ?_)))
          exact W.exit (E.thenX (E.KLX (E.blockX (E.joinJ ⟨gl27, rfl, rfl, h⟩ trivial (fun _ hw => hw.sel [0, 1, 3, 2] (by decide) rfl)))))
        ·
         rintro _ _ ⟨gl25, rfl, rfl, h⟩
         rw [m15_wait_Dead_K13] at h
         refine W.seq (W.region (L.y rfl (Y.assign rfl) ?_))
         refine L.nil (E.thenN (W.ret (E.ret1 rfl rfl (fun w1 hw => ?_))))
         exact ⟨_, _, rfl, ⟨(-1), gl25, rfl, rfl, h⟩, hw.sel [0, 1, 3, 2] (by decide) rfl⟩
       ·
        rintro _ _ ⟨gx14, gl15, rfl, rfl, h⟩
        rw [m15_wait_Dead_K7] at h
        refine L.y rfl (Y.assign rfl) ?_
        refine L.nil (E.thenN (W.seqJ (fun gs D => gs = [(0, gv8), (1, .func (.func 28) #[] #[pt b17 0, pt b3 0]), (5, .int .i64 gx14)] ∧ D = Cls w [] [.obj b17 [.int .i64 x15] 3, .obj b3 [(sv b2 a0.toNat)] 25, .sl gv8 46 2 (gl9.map TEdge.row), .sl (sv b2 a0.toNat) 3 1 (gl15.map I)] ∧ m15_wait_Dead_K8 gx14 x15 go2 gl9 gl15 = some r) ?_ ?_))
        ·
         refine W.seq (W.region (L.y rfl (Y.move rfl) ?_))
         refine L.ite h rfl (Y.eql rfl rfl) (fun c40 h => ?_) (fun c40 h => ?_)
         ·
          refine L.nil (E.thenN (W.condT rfl ?_))
          refine W.seq (W.region (L.y rfl (Y.move rfl) ?_))
          refine L.y rfl (Y.assign rfl) ?_
          refine L.nil (E.thenN (W.ret (E.KSR (E.ret1 rfl rfl (fun w1 hw => ?_)))))
          exact ⟨_, _, rfl, ⟨gv8, gl9, gl15, rfl, rfl, h⟩, hw.sel [1, 2, 3] (by decide) rfl⟩
         ·
          refine L.nil (E.thenN (W.condF rfl ?_))
          exact W.skip (E.joinJ ⟨rfl, rfl, h⟩ ⟨rfl, rfl, rfl, trivial⟩ (fun _ hw => hw))
        ·
         rintro _ _ ⟨rfl, rfl, h⟩
         rw [m15_wait_Dead_K8] at h
         refine W.seqJ (fun gs D => ∃ (gl16 : (List TEdge)) (gx17 : Int) (gl18 : (List Int)), gs = [(0, gv8), (5, .int .i64 gx17)] ∧ D = Cls w [] [.obj b3 [(sv b2 a0.toNat)] 25, .sl gv8 46 2 (gl16.map TEdge.row), .sl (sv b2 a0.toNat) 3 1 (gl18.map I)] ∧ m15_wait_Dead_K9 go2 gl16 gx17 gl18 = some r) ?_ ?_
         ·
          refine W.seq (W.region (L.y rfl (Y.move rfl) ?_))
          refine L.m (V := fun x24 => .int .i64 x24) h rfl (Y.addM rfl rfl) (fun x24 ex24 h => ?_)
          refine L.y rfl (Y.assign rfl) ?_
          refine L.nil (E.thenN (W.block (W.loopJ (fun m gs D => ∃ (gl19 : (List TEdge)) (gx20 : Int) (gx21 : Int) (gl22 : (List Int)), gs = [(0, gv8), (1, .func (.func 28) #[] #[pt b17 0, pt b3 0]), (5, .int .i64 gx20), (6, .int .i64 gx21)] ∧ D = Cls w [] [.obj b17 [.int .i64 x15] 3, .obj b3 [(sv b2 a0.toNat)] 25, .sl gv8 46 2 (gl19.map TEdge.row), .sl (sv b2 a0.toNat) 3 1 (gl22.map I)] ∧ m15_wait_Dead_L3 x15 go2 m gl19 gx20 gx21 gl22 = some r) ⟨gl9, gx14, x24, gl15, rfl, rfl, h⟩ ⟨rfl, rfl, rfl, rfl, trivial⟩ (fun _ hw => hw) ?_)))
          rintro m _ _ ⟨gl19, gx20, gx21, gl22, rfl, rfl, h⟩
          rcases m with _ | m
          · rw [m15_wait_Dead_L3] at h; cases h
          rw [m15_wait_Dead_L3] at h
          generalize hg3 : m15_wait_Dead_L3 x15 go2 m = go3 at h
          rw [m15_wait_Dead_L3B] at h
          refine W.seqJ (fun gs D => gs = [(0, gv8), (1, .func (.func 28) #[] #[pt b17 0, pt b3 0]), (5, .int .i64 gx20), (6, .int .i64 gx21)] ∧ D = Cls w [] [.obj b17 [.int .i64 x15] 3, .obj b3 [(sv b2 a0.toNat)] 25, .sl gv8 46 2 (gl19.map TEdge.row), .sl (sv b2 a0.toNat) 3 1 (gl22.map I)] ∧ m15_wait_Dead_K10 gl19 gx21 x15 gl22 gx20 go3 = some r) ?_ ?_
          ·
           refine W.seq (W.region (L.y rfl (Y.move rfl) ?_))
           refine L.y rfl (Y.move rfl) ?_
           refine L.y rfl (Y.lenM (g := TEdge.row) (l := gl19) Try.underlying22 rfl (fun w hw => As.at_ (hw.get (i := 2) rfl))) ?_
           refine L.ite h rfl (Y.lss rfl rfl) (fun c39 h => ?_) (fun c39 h => ?_)
           ·
            refine L.nil (E.thenN (W.condT rfl ?_))
            exact W.skip (E.joinJ ⟨rfl, rfl, h⟩ ⟨rfl, rfl, rfl, rfl, trivial⟩ (fun _ hw => hw))
           ·
            refine L.nil (E.thenN (W.condF rfl ?_))
            exact W.exit (E.KSX (E.KLX (E.blockX (E.joinJ ⟨gl19, gx20, gl22, rfl, rfl, h⟩ ⟨rfl, rfl, trivial⟩ (fun _ hw => hw.sel [1, 2, 3] (by decide) rfl)))))
          ·
           rintro _ _ ⟨rfl, rfl, h⟩
           rw [m15_wait_Dead_K10] at h
           refine W.seq (W.block (W.seq (W.region (L.y rfl (Y.move rfl) ?_))))
           refine L.y rfl (Y.move rfl) ?_
           refine L.m (V := fun _ => el gv8 (gx21.toNat * 2)) h rfl (Y.indexM (g := TEdge.row) (l := gl19) Try.underlying22 sz46 rfl rfl (fun w hw => As.at_ (hw.get (i := 2) rfl))) (fun x25 ex25 h => ?_)
           refine L.y rfl (Y.loadEN (r := [.int .i64 x25.From, .int .i64 x25.To]) ag46 sz46 rfl (fun w hw => As.at_ (hw.get (i := 2) rfl)) (idx_map ex25) rfl) ?_
           refine L.alloc rfl ze46 ?_
           intro b26
           refine L.store (i := 0) (vs := [.int .i64 x25.From, .int .i64 x25.To]) sz46 rfl rfl rfl rfl (by simp [Value.oneCell', Value.cells, st, pt, el]) rfl (Nat.le_of_ble_eq_true rfl) ?_
           refine L.nil (E.thenN (W.seq (W.region (L.y rfl (Y.move rfl) ?_))))
           refine L.y rfl (Y.loadPW (i := 0) ag46 sz46 rfl rfl rfl) ?_
           refine L.callVJ (fun v D => ∃ (gl23 : (List Int)), v = .bool (decide (x25.To = x15)) ∧ D = Cls w [] [.obj b26 [.int .i64 x25.From, .int .i64 x25.To] 46, .obj b17 [.int .i64 x15] 3, .obj b3 [(sv b2 a0.toNat)] 25, .sl gv8 46 2 (gl19.map TEdge.row), .sl (sv b2 a0.toNat) 3 1 (gl23.map I)] ∧ m15_wait_Dead_K11 x25 x15 gl19 gx20 gx21 go3 gl23 = some r) rfl en28 rfl rfl Try.func28 rfl rfl rfl ?_ ?_
           ·
            refine W.seq (W.region (L.box rfl rfl ?_))
            intro b33
            refine L.y rfl (Y.assign rfl) ?_
            refine L.nil (E.thenN (W.seqJ (fun gs D => ∃ (gl24 : (List Int)), gs = [(1, pt b17 0), (3, pt b33 0)] ∧ D = Cls w [] [.obj b33 [.int .i64 x25.From, .int .i64 x25.To] 46, .obj b26 [.int .i64 x25.From, .int .i64 x25.To] 46, .obj b17 [.int .i64 x15] 3, .obj b3 [(sv b2 a0.toNat)] 25, .sl (sv b2 a0.toNat) 3 1 (gl24.map I), .sl gv8 46 2 (gl19.map TEdge.row)] ∧ m15_wait_Dead_K12 x25 x15 gl19 gx20 gx21 go3 gl24 = some r) ?_ ?_))
            ·
             refine W.seq (W.region (L.y rfl (Y.fieldP fd46_1 rfl) ?_))
             refine L.y rfl (Y.loadP (i := 0) ag3 rfl rfl rfl) ?_
             refine L.y rfl (Y.loadP (i := 2) ag3 rfl rfl rfl) ?_
             refine L.ite h rfl (Y.eql rfl rfl) (fun c34 h => ?_) (fun c34 h => ?_)
             ·
              refine L.nil (E.thenN (W.condT rfl ?_))
              refine W.region (L.y rfl (Y.loadP (i := 3) ag25 rfl rfl rfl) ?_)
              refine L.y rfl (Y.fieldP fd46_0 rfl) ?_
              refine L.y rfl (Y.loadP (i := 0) ag3 rfl rfl rfl) ?_
              refine L.m (V := fun _ => el (sv b2 a0.toNat) (x25.From.toNat * 1)) h rfl (Y.indexM (g := I) (l := gl22) Try.underlying25 sz3 rfl rfl (fun w hw => As.at_ (hw.get (i := 5) rfl))) (fun x35 ex35 h => ?_)
              refine L.y rfl (Y.loadE1 (u := .int .i64 x35) ag3 rfl (fun w hw => As.at_ (hw.get (i := 5) rfl)) (idx_map ex35)) ?_
              refine L.m (V := fun x36 => .int .i64 x36) h rfl (Y.subM rfl rfl) (fun x36 ex36 h => ?_)
              refine L.m (V := fun _ => el (sv b2 a0.toNat) (x25.From.toNat * 1)) h rfl (Y.indexM (g := I) (l := gl22) Try.underlying25 sz3 rfl rfl (fun w hw => As.at_ (hw.get (i := 5) rfl))) (fun x37 ex37 h => ?_)
              refine L.storeSlM (q := 5) (row := I) (vs := [.int .i64 x36]) (j := 0) (u1 := x36) h sz3 rfl rfl rfl rfl rfl (all1 rfl all0) rfl ex37 rfl rfl ?_
              intro l38 el38 h
              exact L.nil (E.joinJ ⟨l38, rfl, rfl, h⟩ ⟨rfl, rfl, trivial⟩ (fun _ hw => hw.sel [0, 1, 2, 3, 5, 4] (by decide) rfl))
             ·
              refine L.nil (E.thenN (W.condF rfl ?_))
              exact W.skip (E.joinJ ⟨gl22, rfl, rfl, h⟩ ⟨rfl, rfl, trivial⟩ (fun _ hw => hw.sel [0, 1, 2, 3, 5, 4] (by decide) rfl))
            ·
             rintro _ _ ⟨gl24, rfl, rfl, h⟩
             rw [m15_wait_Dead_K12] at h
             refine W.seq (W.region (L.y rfl (Y.fieldP fd46_1 rfl) ?_))
             refine L.y rfl (Y.loadP (i := 0) ag3 rfl rfl rfl) ?_
             refine L.y rfl (Y.loadP (i := 2) ag3 rfl rfl rfl) ?_
             refine L.y rfl (Y.eql rfl rfl) ?_
             refine L.y rfl (Y.assign rfl) ?_
             refine L.nil (E.thenN (W.ret (E.ret1 rfl rfl (fun w1 hw => ?_))))
             exact ⟨_, _, rfl, ⟨gl24, rfl, rfl, h⟩, hw.sel [1, 2, 3, 5, 4] (by decide) rfl⟩
           ·
            rintro _ _ ⟨gl23, rfl, rfl, h⟩
            rw [m15_wait_Dead_K11] at h
            refine L.iteB h rfl (Y.not rfl) (fun c27 h => ?_) (fun c27 h => ?_)
            ·
             refine L.nil (E.thenN (W.condT rfl ?_))
             refine W.seq (W.region (L.y rfl (Y.move rfl) ?_))
             refine L.y rfl (Y.move rfl) ?_
             refine L.y rfl (Y.loadPW (i := 0) ag46 sz46 rfl rfl rfl) ?_
             refine L.m (V := fun _ => el gv8 (gx20.toNat * 2)) h rfl (Y.indexM (g := TEdge.row) (l := gl19) Try.underlying22 sz46 rfl rfl (fun w hw => As.at_ (hw.get (i := 3) rfl))) (fun x28 ex28 h => ?_)
             refine L.storeSlM (q := 3) (row := TEdge.row) (vs := [.int .i64 x25.From, .int .i64 x25.To]) (j := 0) (u1 := x25) h sz46 rfl rfl rfl rfl rfl (all1 rfl (all1 rfl all0)) rfl ex28 rfl rfl ?_
             intro l29 el29 h
             refine L.nil (E.thenN (W.region (L.y rfl (Y.move rfl) ?_)))
             refine L.m (V := fun x30 => .int .i64 x30) h rfl (Y.addM rfl rfl) (fun x30 ex30 h => ?_)
             refine L.y rfl (Y.assign rfl) ?_
             refine L.nil (E.blockN (E.thenN (W.region (L.y rfl (Y.move rfl) ?_))))
             refine L.m (V := fun x31 => .int .i64 x31) h rfl (Y.addM rfl rfl) (fun x31 ex31 h => ?_)
             refine L.y rfl (Y.assign rfl) ?_
             exact L.nil (E.againJ ⟨l29, x30, x31, gl23, rfl, rfl, by rw [hg3]; exact h⟩ (Nat.lt_succ_self _) ⟨rfl, rfl, rfl, rfl, trivial⟩ (fun _ hw => hw.sel [1, 2, 3, 4] (by decide) rfl))
            ·
             refine L.nil (E.thenN (W.condF rfl ?_))
             refine W.skip (E.blockN (E.thenN (W.region (L.y rfl (Y.move rfl) ?_))))
             refine L.m (V := fun x32 => .int .i64 x32) h rfl (Y.addM rfl rfl) (fun x32 ex32 h => ?_)
             refine L.y rfl (Y.assign rfl) ?_
             exact L.nil (E.againJ ⟨gl19, gx20, x32, gl23, rfl, rfl, by rw [hg3]; exact h⟩ (Nat.lt_succ_self _) ⟨rfl, rfl, rfl, rfl, trivial⟩ (fun _ hw => hw.sel [1, 2, 3, 4] (by decide) rfl))
         ·
          rintro _ _ ⟨gl16, gx17, gl18, rfl, rfl, h⟩
          rw [m15_wait_Dead_K9] at h
          refine W.seq (W.region (L.y rfl (Y.move rfl) ?_))
          refine L.y rfl (Y.move rfl) ?_
          refine L.m (V := fun _ => dropv gv8 gx17.toNat 2) h rfl (Y.dropM (g := TEdge.row) Try.underlying22 sz46 rfl rfl (fun w hw => As.at_ (hw.get (i := 1) rfl))) (fun l20 el20 h => ?_)
          refine L.clearM (i := 1) (g := TEdge.row) (z0 := (⟨0, 0⟩ : TEdge)) (a := gx17) h Try.underlying22 eL46 ze46 (fun u hu => ((plain_TEdge _) : Plain ([(⟨0, 0⟩ : TEdge)].map TEdge.row)) _ (List.mem_cons_self ..) u hu) rfl rfl ?_
          intro l21 el21 h
          refine L.nil (E.thenN (W.seq (W.region (L.y rfl (Y.move rfl) ?_))))
          refine L.y rfl (Y.move rfl) ?_
          obtain ⟨l22, el22, h⟩ := bind1S h
          refine L.cutM (i := 1) (g := TEdge.row) el22 rfl Try.underlying22 sz46 rfl rfl rfl (fun v23 => ?_)
          refine L.y rfl (Y.assign rfl) ?_
          refine L.nil (E.thenN (W.ret (E.ret1 rfl rfl (fun w1 hw => ?_))))
          exact ⟨_, _, rfl, ⟨v23, l22, gl18, rfl, rfl, h⟩, hw⟩
      ·
       rintro gv11 _ ⟨_, gl12, gl13, rfl, rfl, h⟩
       rw [m15_wait_Dead_K6] at h
       refine L.y rfl (Y.assign rfl) ?_
       exact L.nil (E.blockN (E.againJ ⟨gv11, gl12, gl13, rfl, rfl, by rw [hg2]; exact h⟩ (Nat.lt_succ_self _) ⟨rfl, rfl, trivial⟩ (fun _ hw => hw)))
    ·
     rintro _ _ ⟨gl2, rfl, rfl, h⟩
     rw [m15_wait_Dead_K3] at h
     refine W.seq (W.region (L.y rfl (Y.assign rfl) ?_))
     refine L.nil (E.thenN (W.seqJ (fun gs D => ∃ (gv3 : Value) (gl4 : (List Int)), gs = [(12, gv3)] ∧ D = Cls w [] [.sl gv3 3 1 (gl4.map I)] ∧ m15_wait_Dead_K4 gl4 = some r) ?_ ?_))
     ·
      refine W.seq (W.region (L.y rfl (Y.loadP (i := 0) ag25 rfl rfl rfl) ?_))
      refine L.y rfl (Y.lenM (g := I) (l := gl2) Try.underlying25 rfl (fun w hw => As.at_ (hw.get (i := 1) rfl))) ?_
      refine L.y rfl (Y.move rfl) ?_
      refine L.nil (E.thenN (W.block (W.nilSl 3 1 ?_)))
      refine W.loopJ (fun m gs D => ∃ (gv5 : Value) (gl6 : (List Int)) (gx7 : Int), gs = [(12, gv5), (49, (sv b2 a0.toNat)), (50, .int .i64 (gl2.length : Int)), (51, .int .i64 gx7)] ∧ D = Cls w [] [.sl gv5 3 1 (gl6.map I), .sl (sv b2 a0.toNat) 3 1 (gl2.map I)] ∧ m15_wait_Dead_L1 gl2 m gl6 gx7 = some r) ⟨.slice none 0 0, [], 0, rfl, rfl, h⟩ ⟨rfl, rfl, rfl, rfl, trivial⟩ (fun _ hw => hw.sel [0, 2] (by decide) rfl) ?_
      rintro m _ _ ⟨gv5, gl6, gx7, rfl, rfl, h⟩
      rcases m with _ | m
      · rw [m15_wait_Dead_L1] at h; cases h
      rw [m15_wait_Dead_L1] at h
      generalize hg1 : m15_wait_Dead_L1 gl2 m = go1 at h
      rw [m15_wait_Dead_L1B] at h
      refine W.seq (W.region (L.ite h rfl (Y.lss rfl rfl) (fun c7 h => ?_) (fun c7 h => ?_)))
      ·
       refine L.nil (E.thenN (W.seq (W.condT rfl ?_)))
       refine W.skip (E.thenN (W.seq (W.block (W.seq (W.region (L.y rfl (Y.move rfl) ?_))))))
       refine L.m (V := fun _ => el (sv b2 a0.toNat) (gx7.toNat * 1)) h rfl (Y.indexM (g := I) (l := gl2) Try.underlying25 sz3 rfl rfl (fun w hw => As.at_ (hw.get (i := 1) rfl))) (fun x8 ex8 h => ?_)
       refine L.y rfl (Y.loadE1 (u := .int .i64 x8) ag3 rfl (fun w hw => As.at_ (hw.get (i := 1) rfl)) (idx_map ex8)) ?_
       refine L.y rfl (Y.assign rfl) ?_
       refine L.y rfl (Y.assign rfl) ?_
       refine L.nil (E.thenN (W.seq (W.region (L.y rfl (Y.move rfl) ?_))))
       refine L.ite h rfl (Y.gtr rfl rfl) (fun c9 h => ?_) (fun c9 h => ?_)
       ·
        refine L.nil (E.thenN (W.condT rfl ?_))
        refine W.region (L.y rfl (Y.move rfl) ?_)
        refine L.y rfl (Y.move rfl) ?_
        refine L.litOne rfl Try.underlying25 eL3 rfl rfl ?_
        intro b10
        refine L.appM (i := 1) (g := I) (l := gl6) (more := [gx7]) h rfl Try.underlying25 eL3 rfl rfl rfl (fun w hw => As.at_ (hw.get (i := 0) rfl)) (plain_ints _) rfl ?_
        intro v11 l12 el12 h
        refine L.y rfl (Y.assign rfl) ?_
        refine L.nil (E.blockN (E.thenN (W.region (L.m (V := fun x13 => .int .i64 x13) h rfl (Y.addM rfl rfl) (fun x13 ex13 h => ?_)))))
        refine L.y rfl (Y.move rfl) ?_
        exact L.nil (E.againJ ⟨v11, l12, x13, rfl, rfl, by rw [hg1]; exact h⟩ (Nat.lt_succ_self _) ⟨rfl, rfl, rfl, rfl, trivial⟩ (fun _ hw => hw.sel [0, 2] (by decide) rfl))
       ·
        refine L.nil (E.thenN (W.condF rfl ?_))
        refine W.skip (E.blockN (E.thenN (W.region (L.m (V := fun x14 => .int .i64 x14) h rfl (Y.addM rfl rfl) (fun x14 ex14 h => ?_)))))
        refine L.y rfl (Y.move rfl) ?_
        exact L.nil (E.againJ ⟨gv5, gl6, x14, rfl, rfl, by rw [hg1]; exact h⟩ (Nat.lt_succ_self _) ⟨rfl, rfl, rfl, rfl, trivial⟩ (fun _ hw => hw))
      ·
       refine L.nil (E.thenN (W.seq (W.condF rfl ?_)))
       exact W.exit (E.thenX (E.KLX (E.blockX (E.joinJ ⟨gv5, gl6, rfl, rfl, h⟩ ⟨rfl, trivial⟩ (fun _ hw => hw.sel [0] (by decide) rfl)))))
     ·
      rintro _ _ ⟨gv3, gl4, rfl, rfl, h⟩
      rw [m15_wait_Dead_K4] at h
      refine W.seq (W.region (L.y rfl (Y.move rfl) ?_))
      refine L.y rfl (Y.assign rfl) ?_
      refine L.y rfl (Y.assign rfl) ?_
      refine L.nil (E.thenN (W.ret (E.ret2 rfl rfl rfl (fun w1 hw => ?_))))
      obtain rfl := Option.some.inj h
      exact ⟨_, _, rfl, ⟨_, rfl, rfl⟩, hw⟩
set_option maxRecDepth 100000 in
set_option maxHeartbeats 8000000 in
set_option maxRecDepth 100000 in
set_option maxHeartbeats 8000000 in
set_option maxRecDepth 100000 in
set_option maxHeartbeats 8000000 in
set_option maxRecDepth 100000 in
set_option maxHeartbeats 8000000 in
set_option maxRecDepth 100000 in
set_option maxHeartbeats 8000000 in
set_option maxRecDepth 100000 in
set_option maxHeartbeats 8000000 in
set_option maxRecDepth 100000 in
set_option maxHeartbeats 8000000 in
theorem w16_wait_Victims (a0 : Int) (a1 : (List TEdge)) (u1 : Value) (w : World) (r : ((List Int) × Int)) (h : m16_wait_Victims a0 a1 = some r) (hA1 : At w u1 2 (a1.map TEdge.row)) : Does Try.prog 16 [.int .i64 a0, u1] w fun u m => ∃ v0, u = .tuple #[v0, .int .i64 r.2] ∧ m = [.sl v0 3 1 (r.1.map I)] := by
  rw [m16_wait_Victims] at h
  refine body (n := 65) Try.func16 rfl rfl rfl (Cls.refl w) ?_
  refine W.seq (W.region (L.y rfl (Y.assign rfl) ?_))
  refine L.y rfl (Y.assign rfl) ?_
  refine L.nil (E.thenN (W.seqJ (fun gs D => gs = [(0, .int .i64 a0), (1, u1)] ∧ D = Cls w [] [] ∧ m16_wait_Victims_K1 a1 a0 = some r) ?_ ?_))
  ·
   refine W.seq (W.region (L.y rfl (Y.move rfl) ?_))
   refine L.y rfl (Y.move rfl) ?_
   obtain ⟨x60, e61, h⟩ := bind1S h
   refine L.y rfl (Y.does en9 rfl (fun w' hw => (w9_graph_Check a0 a1 u1 w' _ e61 (hA1.cls0 hw)).mono (fun _ _ h => h.1))) ?_
   refine L.y rfl (Y.assign rfl) ?_
   refine L.nil (E.thenN (W.seq (W.region (L.y rfl (Y.move rfl) ?_))))
   refine L.ite h rfl (Y.neq rfl rfl) (fun c62 h => ?_) (fun c62 h => ?_)
   ·
    refine L.nil (E.thenN (W.condT rfl ?_))
    refine W.seq (W.region (L.y rfl (Y.move rfl) ?_))
    refine L.y rfl (Y.assign rfl) ?_
    refine L.y rfl (Y.assign rfl) ?_
    refine L.nil (E.thenN (W.ret (E.KSR (E.ret2 rfl rfl rfl (fun w1 hw => ?_)))))
    obtain rfl := Option.some.inj h
    exact ⟨_, _, rfl, ⟨_, rfl, rfl⟩, (hw.nilSl 3 1)⟩
   ·
    refine L.nil (E.thenN (W.condF rfl ?_))
    exact W.skip (E.joinJ ⟨rfl, rfl, h⟩ ⟨rfl, rfl, trivial⟩ (fun _ hw => hw))
  ·
   rintro _ _ ⟨rfl, rfl, h⟩
   rw [m16_wait_Victims_K1] at h
   refine W.seq (W.region (L.y rfl (Y.move rfl) ?_))
   obtain ⟨l1, e3, h⟩ := bind1S h
   refine L.does rfl en26 rfl (fun w' hw => w26_api_Edge a1 u1 w' _ e3 (hA1.cls0 hw)) ?_
   rintro v2 _ ⟨_, rfl, rfl⟩
   refine L.y rfl (Y.assign rfl) ?_
   refine L.nil (E.thenN (W.seq (W.region (L.y rfl (Y.assign rfl) ?_))))
   refine L.nil (E.thenN (W.block (W.nilSl 3 1 ?_)))
   refine W.loopJ (fun m gs D => ∃ (gv1 : Value) (gl2 : (List TEdge)) (gv3 : Value) (gl4 : (List Int)), gs = [(0, .int .i64 a0), (7, gv1), (8, gv3)] ∧ D = Cls w [] [.sl gv1 46 2 (gl2.map TEdge.row), .sl gv3 3 1 (gl4.map I)] ∧ m16_wait_Victims_L1 a0 m gl2 gl4 = some r) ⟨v2, l1, .slice none 0 0, [], rfl, rfl, h⟩ ⟨rfl, rfl, rfl, trivial⟩ (fun _ hw => hw.sel [1, 0] (by decide) rfl) ?_
   rintro m _ _ ⟨gv1, gl2, gv3, gl4, rfl, rfl, h⟩
   rcases m with _ | m
   · rw [m16_wait_Victims_L1] at h; cases h
   rw [m16_wait_Victims_L1] at h
   generalize hg1 : m16_wait_Victims_L1 a0 m = go1 at h
   rw [m16_wait_Victims_L1B] at h
   refine W.block (W.seq (W.region (L.alloc rfl ze3 ?_)))
   intro b4
   refine L.store (i := 0) (vs := [.int .i64 (-1)]) sz3 rfl rfl rfl rfl (by simp [Value.oneCell', Value.cells, st, pt, el]) rfl (Nat.le_of_ble_eq_true rfl) ?_
   refine L.nil (E.thenN (W.seq (W.region (L.y rfl (Y.move rfl) ?_))))
   refine L.y rfl (Y.move rfl) ?_
   obtain ⟨l5, x8, e9, h⟩ := bind2S h
   refine L.does rfl en7 rfl (fun w' hw => w7_graph_Parts a0 gl2 gv1 w' _ e9 (As.at_ (hw.get (i := 1) rfl))) ?_
   rintro _ _ ⟨v6, q7, rfl, rfl⟩
   refine L.y rfl (Y.move rfl) ?_
   refine L.y rfl (Y.extract rfl rfl) ?_
   refine L.y rfl (Y.extract rfl rfl) ?_
   refine L.y rfl (Y.assign rfl) ?_
   refine L.y rfl (Y.assign rfl) ?_
   refine L.nil (E.thenN (W.seqJ (fun gs D => ∃ (gx5 : Int), gs = [(0, .int .i64 a0), (7, gv1), (8, gv3), (9, pt b4 0)] ∧ D = Cls w [] [.obj b4 [.int .i64 gx5] 3, .sl gv1 46 2 (gl2.map TEdge.row), .sl gv3 3 1 (gl4.map I)] ∧ m16_wait_Victims_K2 gl4 gl2 go1 gx5 = some r) ?_ ?_))
   ·
    refine W.seq (W.region (L.y rfl (Y.move rfl) ?_))
    refine L.y rfl (Y.lenMZ (row := svRow) (vs := q7) (l := l5) Try.underlying28 rfl (fun w hw => As.at_ (hw.get (i := 0) rfl))) ?_
    refine L.y rfl (Y.move rfl) ?_
    refine L.nil (E.thenN (W.block (W.loopJ (fun m gs D => ∃ (gx17 : Int) (gx18 : Int), gs = [(0, .int .i64 a0), (7, gv1), (8, gv3), (9, pt b4 0), (29, v6), (30, .int .i64 (l5.length : Int)), (31, .int .i64 gx17)] ∧ D = Cls w [] [.obj b4 [.int .i64 gx18] 3, .sl gv1 46 2 (gl2.map TEdge.row), .sl gv3 3 1 (gl4.map I), .sl v6 25 1 (zr svRow q7 l5), .ss (zs (svSd 3 1 I) q7 l5)] ∧ m16_wait_Victims_L4 l5 gl2 gl4 go1 m gx17 gx18 = some r) ⟨0, (-1), rfl, rfl, h⟩ ⟨rfl, rfl, rfl, rfl, rfl, rfl, rfl, trivial⟩ (fun _ hw => hw.sel [2, 3, 4, 0, 1] (by decide) rfl) ?_)))
    rintro m _ _ ⟨gx17, gx18, rfl, rfl, h⟩
    rcases m with _ | m
    · rw [m16_wait_Victims_L4] at h; cases h
    rw [m16_wait_Victims_L4] at h
    generalize hg4 : m16_wait_Victims_L4 l5 gl2 gl4 go1 m = go4 at h
    rw [m16_wait_Victims_L4B] at h
    refine W.seq (W.region (L.ite h rfl (Y.lss rfl rfl) (fun c36 h => ?_) (fun c36 h => ?_)))
    ·
     refine L.nil (E.thenN (W.seq (W.condT rfl ?_)))
     refine W.skip (E.thenN (W.seqJ (fun gs D => ∃ (gx19 : Int), gs = [(0, .int .i64 a0), (7, gv1), (8, gv3), (9, pt b4 0), (29, v6), (30, .int .i64 (l5.length : Int)), (31, .int .i64 gx17)] ∧ D = Cls w [] [.obj b4 [.int .i64 gx19] 3, .sl gv1 46 2 (gl2.map TEdge.row), .sl gv3 3 1 (gl4.map I), .sl v6 25 1 (zr svRow q7 l5), .ss (zs (svSd 3 1 I) q7 l5)] ∧ m16_wait_Victims_K12 gx17 go4 gx19 = some r) ?_ ?_))
     ·
      refine W.block (W.seq (W.region (L.m (V := fun _ => el v6 (gx17.toNat * 1)) h rfl (Y.indexMZ (row := svRow) (vs := q7) (l := l5) Try.underlying28 sz25 rfl rfl (fun w hw => As.at_ (hw.get (i := 3) rfl))) (fun x38 ex38 h => ?_))))
      refine L.y rfl (Y.loadE1 (u := gv (q7 gx17.toNat) 0) ag25 rfl (fun w hw => As.at_ (hw.get (i := 3) rfl)) (zr_idx (vs := q7) ex38)) ?_
      refine L.alloc rfl ze25 ?_
      intro b39
      refine L.storeV (i := 0) sz25 rfl rfl (fun w hw => (As.atZ (sds := (svSd 3 1 I)) (vs := q7) (j := 0) (c := 1) (hw.get (i := 5) rfl) (fun _ _ => rfl) ex38 rfl).one) rfl (Nat.le_of_ble_eq_true rfl) ?_
      refine L.nil (E.thenN (W.seqJ (fun gs D => ∃ (gb20 : Bool), gs = [(0, .int .i64 a0), (7, gv1), (8, gv3), (9, pt b4 0), (13, pt b39 0), (14, .bool gb20), (29, v6), (30, .int .i64 (l5.length : Int)), (31, .int .i64 gx17)] ∧ D = Cls w [] [.obj b39 [gv (q7 gx17.toNat) 0] 25, .obj b4 [.int .i64 gx18] 3, .sl gv1 46 2 (gl2.map TEdge.row), .sl gv3 3 1 (gl4.map I), .sl v6 25 1 (zr svRow q7 l5), .ss (zs (svSd 3 1 I) q7 l5)] ∧ m16_wait_Victims_K13 x38 gx17 go4 gx18 gb20 = some r) ?_ ?_))
      ·
       refine W.region (L.y rfl (Y.move rfl) ?_)
       refine L.y rfl (Y.func rfl) ?_
       refine L.callJ (fun v D => ∃ (gb21 : Bool), v = .bool gb21 ∧ D = Cls w [] [.obj b39 [gv (q7 gx17.toNat) 0] 25, .obj b4 [.int .i64 gx18] 3, .sl gv1 46 2 (gl2.map TEdge.row), .sl gv3 3 1 (gl4.map I), .sl v6 25 1 (zr svRow q7 l5), .ss (zs (svSd 3 1 I) q7 l5)] ∧ m16_wait_Victims_K14 x38 gx17 go4 gx18 gb21 = some r) rfl en29 rfl Try.func29 rfl rfl rfl ?_ ?_
       ·
        refine W.seq (W.region (L.y rfl (Y.assign rfl) ?_))
        refine L.nil (E.thenN (W.seq (W.region (L.y rfl (Y.move rfl) ?_))))
        refine L.y rfl (Y.move rfl) ?_
        refine L.callJ (fun v D => ∃ (gx22 : Int), v = .int .i64 gx22 ∧ D = Cls w [] [.obj b39 [gv (q7 gx17.toNat) 0] 25, .obj b4 [.int .i64 gx18] 3, .sl v6 25 1 (zr svRow q7 l5), .ss (zs (svSd 3 1 I) q7 l5), .sl gv1 46 2 (gl2.map TEdge.row), .sl gv3 3 1 (gl4.map I)] ∧ m16_wait_Victims_K15 x38 gx17 go4 gx18 gx22 = some r) rfl en38 rfl Try.func38 rfl rfl rfl ?_ ?_
        ·
         refine W.seq (W.region (L.y rfl (Y.assign rfl) ?_))
         refine L.nil (E.thenN (W.seqJ (fun gs D => gs = [] ∧ D = Cls w [] [.obj b39 [gv (q7 gx17.toNat) 0] 25, .obj b4 [.int .i64 gx18] 3, .sl v6 25 1 (zr svRow q7 l5), .ss (zs (svSd 3 1 I) q7 l5), .sl gv1 46 2 (gl2.map TEdge.row), .sl gv3 3 1 (gl4.map I)] ∧ m16_wait_Victims_K16 x38 gx17 go4 gx18 = some r) ?_ ?_))
         ·
          refine W.seq (W.region (L.y rfl (Y.move rfl) ?_))
          refine L.y rfl (Y.lenM (g := TEdge.row) (l := gl2) Try.underlying22 rfl (fun w hw => As.at_ (hw.get (i := 2) rfl))) ?_
          refine L.y rfl (Y.move rfl) ?_
          refine L.nil (E.thenN (W.block (W.loopJ (fun m gs D => ∃ (gx23 : Int), gs = [(0, gv1), (1, .func (.func 30) #[] #[pt b39 0]), (7, .int .i64 (gl2.length : Int)), (8, .int .i64 gx23)] ∧ D = Cls w [] [.obj b39 [gv (q7 gx17.toNat) 0] 25, .obj b4 [.int .i64 gx18] 3, .sl gv1 46 2 (gl2.map TEdge.row), .sl v6 25 1 (zr svRow q7 l5), .ss (zs (svSd 3 1 I) q7 l5), .sl gv3 3 1 (gl4.map I)] ∧ m16_wait_Victims_L5 gl2 x38 gx17 go4 gx18 m gx23 = some r) ⟨0, rfl, rfl, h⟩ ⟨rfl, rfl, rfl, rfl, trivial⟩ (fun _ hw => hw.sel [0, 1, 2, 4, 5, 3] (by decide) rfl) ?_)))
          rintro m _ _ ⟨gx23, rfl, rfl, h⟩
          rcases m with _ | m
          · rw [m16_wait_Victims_L5] at h; cases h
          rw [m16_wait_Victims_L5] at h
          generalize hg5 : m16_wait_Victims_L5 gl2 x38 gx17 go4 gx18 m = go5 at h
          rw [m16_wait_Victims_L5B] at h
          refine W.seq (W.region (L.ite h rfl (Y.lss rfl rfl) (fun c54 h => ?_) (fun c54 h => ?_)))
          ·
           refine L.nil (E.thenN (W.seq (W.condT rfl ?_)))
           refine W.skip (E.thenN (W.seq (W.block (W.seq (W.region (L.y rfl (Y.move rfl) ?_))))))
           refine L.y rfl (Y.assign rfl) ?_
           refine L.nil (E.thenN (W.seq (W.region (L.y rfl (Y.move rfl) ?_))))
           refine L.y rfl (Y.move rfl) ?_
           refine L.y rfl (Y.move rfl) ?_
           refine L.m (V := fun _ => el gv1 (gx23.toNat * 2)) h rfl (Y.indexM (g := TEdge.row) (l := gl2) Try.underlying22 sz46 rfl rfl (fun w hw => As.at_ (hw.get (i := 2) rfl))) (fun x55 ex55 h => ?_)
           refine L.y rfl (Y.loadEN (r := [.int .i64 x55.From, .int .i64 x55.To]) ag46 sz46 rfl (fun w hw => As.at_ (hw.get (i := 2) rfl)) (idx_map ex55) rfl) ?_
           refine L.callVJ (fun v D => ∃ (gb24 : Bool), v = .bool gb24 ∧ D = Cls w [] [.obj b39 [gv (q7 gx17.toNat) 0] 25, .obj b4 [.int .i64 gx18] 3, .sl gv1 46 2 (gl2.map TEdge.row), .sl v6 25 1 (zr svRow q7 l5), .ss (zs (svSd 3 1 I) q7 l5), .sl gv3 3 1 (gl4.map I)] ∧ m16_wait_Victims_K17 x38 gx17 go4 gx18 gx23 go5 gb24 = some r) rfl en30 rfl rfl Try.func30 rfl rfl rfl ?_ ?_
           ·
            refine W.seq (W.region (L.box rfl rfl ?_))
            intro b57
            refine L.y rfl (Y.assign rfl) ?_
            refine L.nil (E.thenN (W.seq (W.quietC mixed (by kernel_rfl) (fun _ hw => hw.drew) (fun hC => ?_))))
            refine U.y rfl (Y.fieldP fd46_0 rfl) ?_
            refine U.y rfl (Y.loadP (i := 0) ag3 rfl rfl rfl) ?_
            refine U.y rfl (Y.fieldP fd46_1 rfl) ?_
            refine U.y rfl (Y.loadP (i := 0) ag3 rfl rfl rfl) ?_
            refine U.ite h rfl (Y.eql rfl rfl) (fun c58 h => ?_) (fun c58 h => ?_)
            ·
             refine U.y rfl (Y.move rfl) ?_
             refine U.take rfl (U.y rfl (Y.fieldP fd46_0 rfl) ?_)
             refine U.take rfl (U.y rfl (Y.loadP (i := 0) ag3 rfl rfl rfl) ?_)
             refine U.take rfl (U.y rfl (Y.loadP (i := 1) ag25 rfl rfl rfl) ?_)
             refine U.take rfl (U.m (V := fun _ => el (gv (q7 gx17.toNat) 0) ((0 : Int).toNat * 1)) h rfl (Y.indexM (g := I) (l := x38) Try.underlying25 sz3 rfl rfl (fun w hw => As.atZ (sds := (svSd 3 1 I)) (vs := q7) (j := 0) (c := 1) (hw.get (i := 5) rfl) (fun _ _ => rfl) ex38 rfl)) (fun x59 ex59 h => ?_))
             refine U.take rfl (U.y rfl (Y.loadE1 (u := .int .i64 x59) ag3 rfl (fun w hw => As.atZ (sds := (svSd 3 1 I)) (vs := q7) (j := 0) (c := 1) (hw.get (i := 5) rfl) (fun _ _ => rfl) ex38 rfl) (idx_map ex59)) ?_)
             refine U.take rfl (U.y rfl (Y.eql rfl rfl) ?_)
             refine U.y rfl (Y.pickT rfl rfl) ?_
             refine U.y rfl (Y.assign rfl) ?_
             refine U.nil (E.thenN (W.ret (E.ret1 rfl rfl (fun w1 hw => ?_))))
             exact ⟨_, _, rfl, ⟨decide (x55.From = x59), rfl, rfl, h⟩, hw.sel [1, 2, 3, 4, 5, 6] (by decide) rfl⟩
            ·
             refine U.y rfl (Y.move rfl) ?_
             refine U.pass rfl rfl (by nofun) ?_
             refine U.pass rfl rfl (by nofun) ?_
             refine U.pass rfl rfl (by nofun) ?_
             refine U.pass rfl rfl (by nofun) ?_
             refine U.pass rfl rfl (by nofun) ?_
             refine U.pass rfl rfl (by nofun) ?_
             refine U.y rfl (Y.pickF rfl rfl) ?_
             refine U.y rfl (Y.assign rfl) ?_
             refine U.nil (E.thenN (W.ret (E.ret1 rfl rfl (fun w1 hw => ?_))))
             exact ⟨_, _, rfl, ⟨false, rfl, rfl, h⟩, hw.sel [1, 2, 3, 4, 5, 6] (by decide) rfl⟩
           ·
            rintro _ _ ⟨gb24, rfl, rfl, h⟩
            rw [m16_wait_Victims_K17] at h
            rcases gb24 with _ | _
            ·
             replace h := iteF h
             refine L.nil (E.thenN (W.condF rfl ?_))
             refine W.skip (E.blockN (E.thenN (W.region (L.m (V := fun x56 => .int .i64 x56) h rfl (Y.addM rfl rfl) (fun x56 ex56 h => ?_)))))
             refine L.y rfl (Y.move rfl) ?_
             exact L.nil (E.againJ ⟨x56, rfl, rfl, by rw [hg5]; exact h⟩ (Nat.lt_succ_self _) ⟨rfl, rfl, rfl, rfl, trivial⟩ (fun _ hw => hw))
            ·
             replace h := iteT h
             refine L.nil (E.thenN (W.condT rfl ?_))
             refine W.seq (W.region (L.y rfl (Y.move rfl) ?_))
             refine L.y rfl (Y.assign rfl) ?_
             refine L.nil (E.thenN (W.ret (E.blockR (E.thenR (E.KLR (E.blockR (E.KSR (E.ret1 rfl rfl (fun w1 hw => ?_)))))))))
             exact ⟨_, _, rfl, ⟨gx23, rfl, rfl, h⟩, hw.sel [0, 1, 3, 4, 2, 5] (by decide) rfl⟩
          ·
           refine L.nil (E.thenN (W.seq (W.condF rfl ?_)))
           exact W.exit (E.thenX (E.KLX (E.blockX (E.joinJ ⟨rfl, rfl, h⟩ trivial (fun _ hw => hw.sel [0, 1, 3, 4, 2, 5] (by decide) rfl)))))
         ·
          rintro _ _ ⟨rfl, rfl, h⟩
          rw [m16_wait_Victims_K16] at h
          refine W.seq (W.region (L.y rfl (Y.assign rfl) ?_))
          refine L.nil (E.thenN (W.ret (E.ret1 rfl rfl (fun w1 hw => ?_))))
          exact ⟨_, _, rfl, ⟨(-1), rfl, rfl, h⟩, hw⟩
        ·
         rintro _ _ ⟨gx22, rfl, rfl, h⟩
         rw [m16_wait_Victims_K15] at h
         refine L.y rfl (Y.geq rfl rfl) ?_
         refine L.y rfl (Y.assign rfl) ?_
         refine L.nil (E.thenN (W.ret (E.ret1 rfl rfl (fun w1 hw => ?_))))
         exact ⟨_, _, rfl, ⟨decide (0 ≤ gx22), rfl, rfl, h⟩, hw.sel [0, 1, 4, 5, 2, 3] (by decide) rfl⟩
       ·
        rintro _ _ ⟨gb21, rfl, rfl, h⟩
        rw [m16_wait_Victims_K14] at h
        rcases gb21 with _ | _
        ·
         replace h := iteF h
         refine L.y rfl (Y.assign rfl) ?_
         exact L.nil (E.joinJ ⟨false, rfl, rfl, h⟩ ⟨rfl, rfl, rfl, rfl, rfl, rfl, rfl, rfl, rfl, trivial⟩ (fun _ hw => hw))
        ·
         replace h := iteT h
         refine L.y rfl (Y.assign rfl) ?_
         exact L.nil (E.joinJ ⟨true, rfl, rfl, h⟩ ⟨rfl, rfl, rfl, rfl, rfl, rfl, rfl, rfl, rfl, trivial⟩ (fun _ hw => hw))
      ·
       rintro _ _ ⟨gb20, rfl, rfl, h⟩
       rw [m16_wait_Victims_K13] at h
       rcases gb20 with _ | _
       ·
        replace h := iteF h
        refine W.seq (W.region (L.y rfl (Y.loadP (i := 0) ag25 rfl rfl rfl) ?_))
        refine L.y rfl (Y.lenM (g := I) (l := x38) Try.underlying25 rfl (fun w hw => As.atZ (sds := (svSd 3 1 I)) (vs := q7) (j := 0) (c := 1) (hw.get (i := 5) rfl) (fun _ _ => rfl) ex38 rfl)) ?_
        refine L.ite h rfl (Y.gtr rfl rfl) (fun c40 h => ?_) (fun c40 h => ?_)
        ·
         refine L.y rfl (Y.move rfl) ?_
         refine L.pass rfl rfl (by nofun) ?_
         refine L.y rfl (Y.pickT rfl rfl) ?_
         refine L.nil (E.thenN (W.condT rfl ?_))
         refine W.drawn2 (k := 9) (stC [[8]] [Cls w [] [.obj b39 [gv (q7 gx17.toNat) 0] 25, .obj b4 [.int .i64 gx18] 3, .sl gv1 46 2 (gl2.map TEdge.row), .sl gv3 3 1 (gl4.map I), .sl v6 25 1 (zr svRow q7 l5), .ss (zs (svSd 3 1 I) q7 l5)]] (Cls w [] [.obj b39 [gv (q7 gx17.toNat) 0] 25, .sl gv1 46 2 (gl2.map TEdge.row), .sl gv3 3 1 (gl4.map I), .sl v6 25 1 (zr svRow q7 l5), .ss (zs (svSd 3 1 I) q7 l5)])) rfl mixed (fun _ hw => hw.drew) (Sc.now (by kernel_rfl) (fun _ hw => hw)) ?_
         refine V2.y (i := 0) (Nx2.of (Z := Cls w [] [.obj b39 [gv (q7 gx17.toNat) 0] 25, .obj b4 [.int .i64 gx18] 3, .sl gv1 46 2 (gl2.map TEdge.row), .sl gv3 3 1 (gl4.map I), .sl v6 25 1 (zr svRow q7 l5), .ss (zs (svSd 3 1 I) q7 l5)]) [8] (by kernel_rfl) rfl (Zc.at1 (fun _ hw => hw))) rfl rfl rfl (Y.loadP (i := 1) ag3 rfl rfl rfl) ?_
         refine V2.y (i := 1) (Nx2.of (Z := Cls w [] [.obj b39 [gv (q7 gx17.toNat) 0] 25, .sl gv1 46 2 (gl2.map TEdge.row), .sl gv3 3 1 (gl4.map I), .sl v6 25 1 (zr svRow q7 l5), .ss (zs (svSd 3 1 I) q7 l5)]) [] (by kernel_rfl) rfl (Zc.on (fun _ hw => hw.sel [0, 2, 3, 4, 5] (by decide) rfl) (Zc.fin (fun _ hw => hw)))) rfl rfl rfl (Y.loadP (i := 0) ag25 rfl rfl rfl) ?_
         refine V2.y (i := 2) (Nx2.of (Z := Cls w [] [.obj b39 [gv (q7 gx17.toNat) 0] 25, .sl gv1 46 2 (gl2.map TEdge.row), .sl gv3 3 1 (gl4.map I), .sl v6 25 1 (zr svRow q7 l5), .ss (zs (svSd 3 1 I) q7 l5)]) [] (by kernel_rfl) rfl (Zc.on (fun _ hw => hw.sel [0, 2, 3, 4, 5] (by decide) rfl) (Zc.fin (fun _ hw => hw)))) rfl rfl rfl (Y.loadP (i := 0) ag25 rfl rfl rfl) ?_
         refine V2.y (i := 3) (Nx2.of (Z := Cls w [] [.obj b39 [gv (q7 gx17.toNat) 0] 25, .sl gv1 46 2 (gl2.map TEdge.row), .sl gv3 3 1 (gl4.map I), .sl v6 25 1 (zr svRow q7 l5), .ss (zs (svSd 3 1 I) q7 l5)]) [] (by kernel_rfl) rfl (Zc.on (fun _ hw => hw.sel [0, 2, 3, 4, 5] (by decide) rfl) (Zc.fin (fun _ hw => hw)))) rfl rfl rfl (Y.lenM (g := I) (l := x38) Try.underlying25 rfl (fun w hw => As.atZ (sds := (svSd 3 1 I)) (vs := q7) (j := 0) (c := 1) (hw.get (i := 4) rfl) (fun _ _ => rfl) ex38 rfl)) ?_
         refine V2.m (i := 4) (V' := fun x43 => .int .i64 x43) h (Nx2.of (Z := Cls w [] [.obj b39 [gv (q7 gx17.toNat) 0] 25, .sl gv1 46 2 (gl2.map TEdge.row), .sl gv3 3 1 (gl4.map I), .sl v6 25 1 (zr svRow q7 l5), .ss (zs (svSd 3 1 I) q7 l5)]) [] (by kernel_rfl) rfl (Zc.on (fun _ hw => hw.sel [0, 2, 3, 4, 5] (by decide) rfl) (Zc.fin (fun _ hw => hw)))) rfl rfl rfl (Y.subM rfl rfl) (fun x43 ex43 h => ?_)
         refine V2.m (i := 5) (V' := fun _ => el (gv (q7 gx17.toNat) 0) (x43.toNat * 1)) h (Nx2.of (Z := Cls w [] [.obj b39 [gv (q7 gx17.toNat) 0] 25, .sl gv1 46 2 (gl2.map TEdge.row), .sl gv3 3 1 (gl4.map I), .sl v6 25 1 (zr svRow q7 l5), .ss (zs (svSd 3 1 I) q7 l5)]) [] (by kernel_rfl) rfl (Zc.on (fun _ hw => hw.sel [0, 2, 3, 4, 5] (by decide) rfl) (Zc.fin (fun _ hw => hw)))) rfl rfl rfl (Y.indexM (g := I) (l := x38) Try.underlying25 sz3 rfl rfl (fun w hw => As.atZ (sds := (svSd 3 1 I)) (vs := q7) (j := 0) (c := 1) (hw.get (i := 4) rfl) (fun _ _ => rfl) ex38 rfl)) (fun x44 ex44 h => ?_)
         refine V2.y (i := 6) (Nx2.of (Z := Cls w [] [.obj b39 [gv (q7 gx17.toNat) 0] 25, .sl gv1 46 2 (gl2.map TEdge.row), .sl gv3 3 1 (gl4.map I), .sl v6 25 1 (zr svRow q7 l5), .ss (zs (svSd 3 1 I) q7 l5)]) [] (by kernel_rfl) rfl (Zc.on (fun _ hw => hw.sel [0, 2, 3, 4, 5] (by decide) rfl) (Zc.fin (fun _ hw => hw)))) rfl rfl rfl (Y.loadE1 (u := .int .i64 x44) ag3 rfl (fun w hw => As.atZ (sds := (svSd 3 1 I)) (vs := q7) (j := 0) (c := 1) (hw.get (i := 4) rfl) (fun _ _ => rfl) ex38 rfl) (idx_map ex44)) ?_
         refine V2.y (i := 7) (Nx2.of (Z := Cls w [] [.obj b39 [gv (q7 gx17.toNat) 0] 25, .sl gv1 46 2 (gl2.map TEdge.row), .sl gv3 3 1 (gl4.map I), .sl v6 25 1 (zr svRow q7 l5), .ss (zs (svSd 3 1 I) q7 l5)]) [] (by kernel_rfl) rfl (Zc.on (fun _ hw => hw.sel [0, 2, 3, 4, 5] (by decide) rfl) (Zc.fin (fun _ hw => hw)))) rfl rfl rfl (Y.max2 rfl rfl) ?_
         refine V2.eff (i := 8) (by kernel_rfl) rfl ?_
         refine L.store (i := 1) (vs := [.int .i64 (max gx18 x44)]) sz3 rfl rfl rfl rfl (by simp [Value.oneCell', Value.cells, st, pt, el]) rfl (Nat.le_of_ble_eq_true rfl) ?_
         refine L.nil (E.toV2 (stC [] [] (Cls w [] [.obj b39 [gv (q7 gx17.toNat) 0] 25, .sl gv1 46 2 (gl2.map TEdge.row), .sl gv3 3 1 (gl4.map I), .sl v6 25 1 (zr svRow q7 l5), .ss (zs (svSd 3 1 I) q7 l5)])) 8 (by kernel_rfl) (Sc.past rfl (Sc.stayD (fun _ hw => hw))) (Sc.atD (fun _ hw => hw.sel [0, 2, 3, 4, 5] (by decide) rfl)) ?_)
         refine V2.done (by kernel_rfl) ?_
         exact E.blockN (E.joinJ ⟨(max gx18 x44), rfl, rfl, h⟩ ⟨rfl, rfl, rfl, rfl, rfl, rfl, rfl, trivial⟩ (fun _ hw => hw.sel [1, 2, 3, 4, 5] (by decide) rfl))
        ·
         refine L.y rfl (Y.move rfl) ?_
         refine L.take rfl (L.y rfl (Y.move rfl) ?_)
         refine L.y rfl (Y.pickF rfl rfl) ?_
         refine L.nil (E.thenN (W.condF rfl ?_))
         exact W.skip (E.blockN (E.joinJ ⟨gx18, rfl, rfl, h⟩ ⟨rfl, rfl, rfl, rfl, rfl, rfl, rfl, trivial⟩ (fun _ hw => hw.sel [1, 2, 3, 4, 5] (by decide) rfl)))
       ·
        replace h := iteT h
        refine W.seq (W.region (L.y rfl (Y.loadP (i := 0) ag25 rfl rfl rfl) ?_))
        refine L.y rfl (Y.lenM (g := I) (l := x38) Try.underlying25 rfl (fun w hw => As.atZ (sds := (svSd 3 1 I)) (vs := q7) (j := 0) (c := 1) (hw.get (i := 5) rfl) (fun _ _ => rfl) ex38 rfl)) ?_
        refine L.ite h rfl (Y.gtr rfl rfl) (fun c45 h => ?_) (fun c45 h => ?_)
        ·
         refine L.y rfl (Y.move rfl) ?_
         refine L.pass rfl rfl (by nofun) ?_
         refine L.y rfl (Y.pickT rfl rfl) ?_
         refine L.nil (E.thenN (W.condT rfl ?_))
         refine W.drawn2 (k := 9) (stC [[8]] [Cls w [] [.obj b39 [gv (q7 gx17.toNat) 0] 25, .obj b4 [.int .i64 gx18] 3, .sl gv1 46 2 (gl2.map TEdge.row), .sl gv3 3 1 (gl4.map I), .sl v6 25 1 (zr svRow q7 l5), .ss (zs (svSd 3 1 I) q7 l5)]] (Cls w [] [.obj b39 [gv (q7 gx17.toNat) 0] 25, .sl gv1 46 2 (gl2.map TEdge.row), .sl gv3 3 1 (gl4.map I), .sl v6 25 1 (zr svRow q7 l5), .ss (zs (svSd 3 1 I) q7 l5)])) rfl mixed (fun _ hw => hw.drew) (Sc.now (by kernel_rfl) (fun _ hw => hw)) ?_
         refine V2.y (i := 0) (Nx2.of (Z := Cls w [] [.obj b39 [gv (q7 gx17.toNat) 0] 25, .obj b4 [.int .i64 gx18] 3, .sl gv1 46 2 (gl2.map TEdge.row), .sl gv3 3 1 (gl4.map I), .sl v6 25 1 (zr svRow q7 l5), .ss (zs (svSd 3 1 I) q7 l5)]) [8] (by kernel_rfl) rfl (Zc.at1 (fun _ hw => hw))) rfl rfl rfl (Y.loadP (i := 1) ag3 rfl rfl rfl) ?_
         refine V2.y (i := 1) (Nx2.of (Z := Cls w [] [.obj b39 [gv (q7 gx17.toNat) 0] 25, .sl gv1 46 2 (gl2.map TEdge.row), .sl gv3 3 1 (gl4.map I), .sl v6 25 1 (zr svRow q7 l5), .ss (zs (svSd 3 1 I) q7 l5)]) [] (by kernel_rfl) rfl (Zc.on (fun _ hw => hw.sel [0, 2, 3, 4, 5] (by decide) rfl) (Zc.fin (fun _ hw => hw)))) rfl rfl rfl (Y.loadP (i := 0) ag25 rfl rfl rfl) ?_
         refine V2.y (i := 2) (Nx2.of (Z := Cls w [] [.obj b39 [gv (q7 gx17.toNat) 0] 25, .sl gv1 46 2 (gl2.map TEdge.row), .sl gv3 3 1 (gl4.map I), .sl v6 25 1 (zr svRow q7 l5), .ss (zs (svSd 3 1 I) q7 l5)]) [] (by kernel_rfl) rfl (Zc.on (fun _ hw => hw.sel [0, 2, 3, 4, 5] (by decide) rfl) (Zc.fin (fun _ hw => hw)))) rfl rfl rfl (Y.loadP (i := 0) ag25 rfl rfl rfl) ?_
         refine V2.y (i := 3) (Nx2.of (Z := Cls w [] [.obj b39 [gv (q7 gx17.toNat) 0] 25, .sl gv1 46 2 (gl2.map TEdge.row), .sl gv3 3 1 (gl4.map I), .sl v6 25 1 (zr svRow q7 l5), .ss (zs (svSd 3 1 I) q7 l5)]) [] (by kernel_rfl) rfl (Zc.on (fun _ hw => hw.sel [0, 2, 3, 4, 5] (by decide) rfl) (Zc.fin (fun _ hw => hw)))) rfl rfl rfl (Y.lenM (g := I) (l := x38) Try.underlying25 rfl (fun w hw => As.atZ (sds := (svSd 3 1 I)) (vs := q7) (j := 0) (c := 1) (hw.get (i := 4) rfl) (fun _ _ => rfl) ex38 rfl)) ?_
         refine V2.m (i := 4) (V' := fun x48 => .int .i64 x48) h (Nx2.of (Z := Cls w [] [.obj b39 [gv (q7 gx17.toNat) 0] 25, .sl gv1 46 2 (gl2.map TEdge.row), .sl gv3 3 1 (gl4.map I), .sl v6 25 1 (zr svRow q7 l5), .ss (zs (svSd 3 1 I) q7 l5)]) [] (by kernel_rfl) rfl (Zc.on (fun _ hw => hw.sel [0, 2, 3, 4, 5] (by decide) rfl) (Zc.fin (fun _ hw => hw)))) rfl rfl rfl (Y.subM rfl rfl) (fun x48 ex48 h => ?_)
         refine V2.m (i := 5) (V' := fun _ => el (gv (q7 gx17.toNat) 0) (x48.toNat * 1)) h (Nx2.of (Z := Cls w [] [.obj b39 [gv (q7 gx17.toNat) 0] 25, .sl gv1 46 2 (gl2.map TEdge.row), .sl gv3 3 1 (gl4.map I), .sl v6 25 1 (zr svRow q7 l5), .ss (zs (svSd 3 1 I) q7 l5)]) [] (by kernel_rfl) rfl (Zc.on (fun _ hw => hw.sel [0, 2, 3, 4, 5] (by decide) rfl) (Zc.fin (fun _ hw => hw)))) rfl rfl rfl (Y.indexM (g := I) (l := x38) Try.underlying25 sz3 rfl rfl (fun w hw => As.atZ (sds := (svSd 3 1 I)) (vs := q7) (j := 0) (c := 1) (hw.get (i := 4) rfl) (fun _ _ => rfl) ex38 rfl)) (fun x49 ex49 h => ?_)
         refine V2.y (i := 6) (Nx2.of (Z := Cls w [] [.obj b39 [gv (q7 gx17.toNat) 0] 25, .sl gv1 46 2 (gl2.map TEdge.row), .sl gv3 3 1 (gl4.map I), .sl v6 25 1 (zr svRow q7 l5), .ss (zs (svSd 3 1 I) q7 l5)]) [] (by kernel_rfl) rfl (Zc.on (fun _ hw => hw.sel [0, 2, 3, 4, 5] (by decide) rfl) (Zc.fin (fun _ hw => hw)))) rfl rfl rfl (Y.loadE1 (u := .int .i64 x49) ag3 rfl (fun w hw => As.atZ (sds := (svSd 3 1 I)) (vs := q7) (j := 0) (c := 1) (hw.get (i := 4) rfl) (fun _ _ => rfl) ex38 rfl) (idx_map ex49)) ?_
         refine V2.y (i := 7) (Nx2.of (Z := Cls w [] [.obj b39 [gv (q7 gx17.toNat) 0] 25, .sl gv1 46 2 (gl2.map TEdge.row), .sl gv3 3 1 (gl4.map I), .sl v6 25 1 (zr svRow q7 l5), .ss (zs (svSd 3 1 I) q7 l5)]) [] (by kernel_rfl) rfl (Zc.on (fun _ hw => hw.sel [0, 2, 3, 4, 5] (by decide) rfl) (Zc.fin (fun _ hw => hw)))) rfl rfl rfl (Y.max2 rfl rfl) ?_
         refine V2.eff (i := 8) (by kernel_rfl) rfl ?_
         refine L.store (i := 1) (vs := [.int .i64 (max gx18 x49)]) sz3 rfl rfl rfl rfl (by simp [Value.oneCell', Value.cells, st, pt, el]) rfl (Nat.le_of_ble_eq_true rfl) ?_
         refine L.nil (E.toV2 (stC [] [] (Cls w [] [.obj b39 [gv (q7 gx17.toNat) 0] 25, .sl gv1 46 2 (gl2.map TEdge.row), .sl gv3 3 1 (gl4.map I), .sl v6 25 1 (zr svRow q7 l5), .ss (zs (svSd 3 1 I) q7 l5)])) 8 (by kernel_rfl) (Sc.past rfl (Sc.stayD (fun _ hw => hw))) (Sc.atD (fun _ hw => hw.sel [0, 2, 3, 4, 5] (by decide) rfl)) ?_)
         refine V2.done (by kernel_rfl) ?_
         exact E.blockN (E.joinJ ⟨(max gx18 x49), rfl, rfl, h⟩ ⟨rfl, rfl, rfl, rfl, rfl, rfl, rfl, trivial⟩ (fun _ hw => hw.sel [1, 2, 3, 4, 5] (by decide) rfl))
        ·
         refine L.y rfl (Y.move rfl) ?_
         refine L.take rfl (L.y rfl (Y.move rfl) ?_)
         refine L.y rfl (Y.pickF rfl rfl) ?_
         refine L.nil (E.thenN (W.condT rfl ?_))
         refine W.drawn2 (k := 9) (stC [[8]] [Cls w [] [.obj b39 [gv (q7 gx17.toNat) 0] 25, .obj b4 [.int .i64 gx18] 3, .sl gv1 46 2 (gl2.map TEdge.row), .sl gv3 3 1 (gl4.map I), .sl v6 25 1 (zr svRow q7 l5), .ss (zs (svSd 3 1 I) q7 l5)]] (Cls w [] [.obj b39 [gv (q7 gx17.toNat) 0] 25, .sl gv1 46 2 (gl2.map TEdge.row), .sl gv3 3 1 (gl4.map I), .sl v6 25 1 (zr svRow q7 l5), .ss (zs (svSd 3 1 I) q7 l5)])) rfl mixed (fun _ hw => hw.drew) (Sc.now (by kernel_rfl) (fun _ hw => hw)) ?_
         refine V2.y (i := 0) (Nx2.of (Z := Cls w [] [.obj b39 [gv (q7 gx17.toNat) 0] 25, .obj b4 [.int .i64 gx18] 3, .sl gv1 46 2 (gl2.map TEdge.row), .sl gv3 3 1 (gl4.map I), .sl v6 25 1 (zr svRow q7 l5), .ss (zs (svSd 3 1 I) q7 l5)]) [8] (by kernel_rfl) rfl (Zc.at1 (fun _ hw => hw))) rfl rfl rfl (Y.loadP (i := 1) ag3 rfl rfl rfl) ?_
         refine V2.y (i := 1) (Nx2.of (Z := Cls w [] [.obj b39 [gv (q7 gx17.toNat) 0] 25, .sl gv1 46 2 (gl2.map TEdge.row), .sl gv3 3 1 (gl4.map I), .sl v6 25 1 (zr svRow q7 l5), .ss (zs (svSd 3 1 I) q7 l5)]) [] (by kernel_rfl) rfl (Zc.on (fun _ hw => hw.sel [0, 2, 3, 4, 5] (by decide) rfl) (Zc.fin (fun _ hw => hw)))) rfl rfl rfl (Y.loadP (i := 0) ag25 rfl rfl rfl) ?_
         refine V2.y (i := 2) (Nx2.of (Z := Cls w [] [.obj b39 [gv (q7 gx17.toNat) 0] 25, .sl gv1 46 2 (gl2.map TEdge.row), .sl gv3 3 1 (gl4.map I), .sl v6 25 1 (zr svRow q7 l5), .ss (zs (svSd 3 1 I) q7 l5)]) [] (by kernel_rfl) rfl (Zc.on (fun _ hw => hw.sel [0, 2, 3, 4, 5] (by decide) rfl) (Zc.fin (fun _ hw => hw)))) rfl rfl rfl (Y.loadP (i := 0) ag25 rfl rfl rfl) ?_
         refine V2.y (i := 3) (Nx2.of (Z := Cls w [] [.obj b39 [gv (q7 gx17.toNat) 0] 25, .sl gv1 46 2 (gl2.map TEdge.row), .sl gv3 3 1 (gl4.map I), .sl v6 25 1 (zr svRow q7 l5), .ss (zs (svSd 3 1 I) q7 l5)]) [] (by kernel_rfl) rfl (Zc.on (fun _ hw => hw.sel [0, 2, 3, 4, 5] (by decide) rfl) (Zc.fin (fun _ hw => hw)))) rfl rfl rfl (Y.lenM (g := I) (l := x38) Try.underlying25 rfl (fun w hw => As.atZ (sds := (svSd 3 1 I)) (vs := q7) (j := 0) (c := 1) (hw.get (i := 4) rfl) (fun _ _ => rfl) ex38 rfl)) ?_
         refine V2.m (i := 4) (V' := fun x52 => .int .i64 x52) h (Nx2.of (Z := Cls w [] [.obj b39 [gv (q7 gx17.toNat) 0] 25, .sl gv1 46 2 (gl2.map TEdge.row), .sl gv3 3 1 (gl4.map I), .sl v6 25 1 (zr svRow q7 l5), .ss (zs (svSd 3 1 I) q7 l5)]) [] (by kernel_rfl) rfl (Zc.on (fun _ hw => hw.sel [0, 2, 3, 4, 5] (by decide) rfl) (Zc.fin (fun _ hw => hw)))) rfl rfl rfl (Y.subM rfl rfl) (fun x52 ex52 h => ?_)
         refine V2.m (i := 5) (V' := fun _ => el (gv (q7 gx17.toNat) 0) (x52.toNat * 1)) h (Nx2.of (Z := Cls w [] [.obj b39 [gv (q7 gx17.toNat) 0] 25, .sl gv1 46 2 (gl2.map TEdge.row), .sl gv3 3 1 (gl4.map I), .sl v6 25 1 (zr svRow q7 l5), .ss (zs (svSd 3 1 I) q7 l5)]) [] (by kernel_rfl) rfl (Zc.on (fun _ hw => hw.sel [0, 2, 3, 4, 5] (by decide) rfl) (Zc.fin (fun _ hw => hw)))) rfl rfl rfl (Y.indexM (g := I) (l := x38) Try.underlying25 sz3 rfl rfl (fun w hw => As.atZ (sds := (svSd 3 1 I)) (vs := q7) (j := 0) (c := 1) (hw.get (i := 4) rfl) (fun _ _ => rfl) ex38 rfl)) (fun x53 ex53 h => ?_)
         refine V2.y (i := 6) (Nx2.of (Z := Cls w [] [.obj b39 [gv (q7 gx17.toNat) 0] 25, .sl gv1 46 2 (gl2.map TEdge.row), .sl gv3 3 1 (gl4.map I), .sl v6 25 1 (zr svRow q7 l5), .ss (zs (svSd 3 1 I) q7 l5)]) [] (by kernel_rfl) rfl (Zc.on (fun _ hw => hw.sel [0, 2, 3, 4, 5] (by decide) rfl) (Zc.fin (fun _ hw => hw)))) rfl rfl rfl (Y.loadE1 (u := .int .i64 x53) ag3 rfl (fun w hw => As.atZ (sds := (svSd 3 1 I)) (vs := q7) (j := 0) (c := 1) (hw.get (i := 4) rfl) (fun _ _ => rfl) ex38 rfl) (idx_map ex53)) ?_
         refine V2.y (i := 7) (Nx2.of (Z := Cls w [] [.obj b39 [gv (q7 gx17.toNat) 0] 25, .sl gv1 46 2 (gl2.map TEdge.row), .sl gv3 3 1 (gl4.map I), .sl v6 25 1 (zr svRow q7 l5), .ss (zs (svSd 3 1 I) q7 l5)]) [] (by kernel_rfl) rfl (Zc.on (fun _ hw => hw.sel [0, 2, 3, 4, 5] (by decide) rfl) (Zc.fin (fun _ hw => hw)))) rfl rfl rfl (Y.max2 rfl rfl) ?_
         refine V2.eff (i := 8) (by kernel_rfl) rfl ?_
         refine L.store (i := 1) (vs := [.int .i64 (max gx18 x53)]) sz3 rfl rfl rfl rfl (by simp [Value.oneCell', Value.cells, st, pt, el]) rfl (Nat.le_of_ble_eq_true rfl) ?_
         refine L.nil (E.toV2 (stC [] [] (Cls w [] [.obj b39 [gv (q7 gx17.toNat) 0] 25, .sl gv1 46 2 (gl2.map TEdge.row), .sl gv3 3 1 (gl4.map I), .sl v6 25 1 (zr svRow q7 l5), .ss (zs (svSd 3 1 I) q7 l5)])) 8 (by kernel_rfl) (Sc.past rfl (Sc.stayD (fun _ hw => hw))) (Sc.atD (fun _ hw => hw.sel [0, 2, 3, 4, 5] (by decide) rfl)) ?_)
         refine V2.done (by kernel_rfl) ?_
         exact E.blockN (E.joinJ ⟨(max gx18 x53), rfl, rfl, h⟩ ⟨rfl, rfl, rfl, rfl, rfl, rfl, rfl, trivial⟩ (fun _ hw => hw.sel [1, 2, 3, 4, 5] (by decide) rfl))
     ·
      rintro _ _ ⟨gx19, rfl, rfl, h⟩
      rw [m16_wait_Victims_K12] at h
      refine W.region (L.m (V := fun x37 => .int .i64 x37) h rfl (Y.addM rfl rfl) (fun x37 ex37 h => ?_))
      refine L.y rfl (Y.move rfl) ?_
      exact L.nil (E.againJ ⟨x37, gx19, rfl, rfl, by rw [hg4]; exact h⟩ (Nat.lt_succ_self _) ⟨rfl, rfl, rfl, rfl, rfl, rfl, rfl, trivial⟩ (fun _ hw => hw))
    ·
     refine L.nil (E.thenN (W.seq (W.condF rfl ?_)))
     exact W.exit (E.thenX (E.KLX (E.blockX (E.joinJ ⟨gx18, rfl, rfl, h⟩ ⟨rfl, rfl, rfl, rfl, trivial⟩ (fun _ hw => hw.sel [0, 1, 2] (by decide) rfl)))))
   ·
    rintro _ _ ⟨gx5, rfl, rfl, h⟩
    rw [m16_wait_Victims_K2] at h
    refine W.seqJ (fun gs D => gs = [(0, .int .i64 a0), (7, gv1), (8, gv3), (9, pt b4 0)] ∧ D = Cls w [] [.obj b4 [.int .i64 gx5] 3, .sl gv1 46 2 (gl2.map TEdge.row), .sl gv3 3 1 (gl4.map I)] ∧ m16_wait_Victims_K3 gl4 gx5 gl2 go1 = some r) ?_ ?_
    ·
     refine W.seq (W.region (L.y rfl (Y.loadP (i := 0) ag3 rfl rfl rfl) ?_))
     refine L.ite h rfl (Y.lss rfl rfl) (fun c34 h => ?_) (fun c34 h => ?_)
     ·
      refine L.nil (E.thenN (W.condT rfl ?_))
      refine W.seq (W.region (L.y rfl (Y.move rfl) ?_))
      refine L.sortMD (i := 2) (l := gl4) h wSort rfl en31 rfl rfl ?_
      intro l35 el35 h
      refine L.nil (E.thenN (W.seq (W.region (L.y rfl (Y.move rfl) ?_))))
      refine L.y rfl (Y.assign rfl) ?_
      refine L.y rfl (Y.assign rfl) ?_
      refine L.nil (E.thenN (W.ret (E.KSR (E.blockR (E.KLR (E.blockR (E.ret2 rfl rfl rfl (fun w1 hw => ?_))))))))
      obtain rfl := Option.some.inj h
      exact ⟨_, _, rfl, ⟨_, rfl, rfl⟩, hw.sel [2] (by decide) rfl⟩
     ·
      refine L.nil (E.thenN (W.condF rfl ?_))
      exact W.skip (E.joinJ ⟨rfl, rfl, h⟩ ⟨rfl, rfl, rfl, rfl, trivial⟩ (fun _ hw => hw))
    ·
     rintro _ _ ⟨rfl, rfl, h⟩
     rw [m16_wait_Victims_K3] at h
     refine W.seq (W.region (L.y rfl (Y.move rfl) ?_))
     refine L.y rfl (Y.loadP (i := 0) ag3 rfl rfl rfl) ?_
     refine L.litOne rfl Try.underlying25 eL3 rfl rfl ?_
     intro b10
     refine L.appM (i := 3) (g := I) (l := gl4) (more := [gx5]) h rfl Try.underlying25 eL3 rfl rfl rfl (fun w hw => As.at_ (hw.get (i := 0) rfl)) (plain_ints _) rfl ?_
     intro v11 l12 el12 h
     refine L.y rfl (Y.assign rfl) ?_
     refine L.nil (E.thenN (W.region (L.y rfl (Y.move rfl) ?_)))
     refine L.y rfl (Y.func rfl) ?_
     refine L.callJ (fun v D => ∃ (gv6 : Value) (gl7 : (List TEdge)), v = gv6 ∧ D = Cls w [] [.sl v11 3 1 (l12.map I), .sl gv6 46 2 (gl7.map TEdge.row)] ∧ m16_wait_Victims_K4 go1 l12 gl7 = some r) rfl en27 rfl Try.func27 rfl rfl rfl ?_ ?_
     ·
      refine W.seq (W.region (L.y rfl (Y.assign rfl) ?_))
      refine L.nil (E.thenN (W.seq (W.region (L.y rfl (Y.move rfl) ?_))))
      refine L.y rfl (Y.move rfl) ?_
      refine L.callJ (fun v D => ∃ (gx8 : Int), v = .int .i64 gx8 ∧ D = Cls w [] [.obj b4 [.int .i64 gx5] 3, .sl gv1 46 2 (gl2.map TEdge.row), .sl v11 3 1 (l12.map I)] ∧ m16_wait_Victims_K5 go1 l12 gl2 gx5 gx8 = some r) rfl en38 rfl Try.func38 rfl rfl rfl ?_ ?_
      ·
       refine W.seq (W.region (L.y rfl (Y.assign rfl) ?_))
       refine L.nil (E.thenN (W.seqJ (fun gs D => gs = [] ∧ D = Cls w [] [.obj b4 [.int .i64 gx5] 3, .sl v11 3 1 (l12.map I), .sl gv1 46 2 (gl2.map TEdge.row)] ∧ m16_wait_Victims_K10 go1 l12 gl2 gx5 = some r) ?_ ?_))
       ·
        refine W.seq (W.region (L.y rfl (Y.move rfl) ?_))
        refine L.y rfl (Y.lenM (g := TEdge.row) (l := gl2) Try.underlying22 rfl (fun w hw => As.at_ (hw.get (i := 3) rfl))) ?_
        refine L.y rfl (Y.move rfl) ?_
        refine L.nil (E.thenN (W.block (W.loopJ (fun m gs D => ∃ (gx15 : Int), gs = [(0, gv1), (1, .func (.func 32) #[] #[pt b4 0]), (7, .int .i64 (gl2.length : Int)), (8, .int .i64 gx15)] ∧ D = Cls w [] [.obj b4 [.int .i64 gx5] 3, .sl gv1 46 2 (gl2.map TEdge.row), .sl v11 3 1 (l12.map I)] ∧ m16_wait_Victims_L3 gl2 gx5 go1 l12 m gx15 = some r) ⟨0, rfl, rfl, h⟩ ⟨rfl, rfl, rfl, rfl, trivial⟩ (fun _ hw => hw.sel [2, 3, 0] (by decide) rfl) ?_)))
        rintro m _ _ ⟨gx15, rfl, rfl, h⟩
        rcases m with _ | m
        · rw [m16_wait_Victims_L3] at h; cases h
        rw [m16_wait_Victims_L3] at h
        generalize hg3 : m16_wait_Victims_L3 gl2 gx5 go1 l12 m = go3 at h
        rw [m16_wait_Victims_L3B] at h
        refine W.seq (W.region (L.ite h rfl (Y.lss rfl rfl) (fun c29 h => ?_) (fun c29 h => ?_)))
        ·
         refine L.nil (E.thenN (W.seq (W.condT rfl ?_)))
         refine W.skip (E.thenN (W.seq (W.block (W.seq (W.region (L.y rfl (Y.move rfl) ?_))))))
         refine L.y rfl (Y.assign rfl) ?_
         refine L.nil (E.thenN (W.seq (W.region (L.y rfl (Y.move rfl) ?_))))
         refine L.y rfl (Y.move rfl) ?_
         refine L.y rfl (Y.move rfl) ?_
         refine L.m (V := fun _ => el gv1 (gx15.toNat * 2)) h rfl (Y.indexM (g := TEdge.row) (l := gl2) Try.underlying22 sz46 rfl rfl (fun w hw => As.at_ (hw.get (i := 1) rfl))) (fun x30 ex30 h => ?_)
         refine L.y rfl (Y.loadEN (r := [.int .i64 x30.From, .int .i64 x30.To]) ag46 sz46 rfl (fun w hw => As.at_ (hw.get (i := 1) rfl)) (idx_map ex30) rfl) ?_
         refine L.callVJ (fun v D => ∃ (gb16 : Bool), v = .bool gb16 ∧ D = Cls w [] [.obj b4 [.int .i64 gx5] 3, .sl gv1 46 2 (gl2.map TEdge.row), .sl v11 3 1 (l12.map I)] ∧ m16_wait_Victims_K11 go1 l12 gl2 gx5 gx15 go3 gb16 = some r) rfl en32 rfl rfl Try.func32 rfl rfl rfl ?_ ?_
         ·
          refine W.seq (W.region (L.box rfl rfl ?_))
          intro b32
          refine L.y rfl (Y.assign rfl) ?_
          refine L.nil (E.thenN (W.seq (W.region (L.y rfl (Y.fieldP fd46_0 rfl) ?_))))
          refine L.y rfl (Y.loadP (i := 0) ag3 rfl rfl rfl) ?_
          refine L.y rfl (Y.loadP (i := 1) ag3 rfl rfl rfl) ?_
          refine L.ite h rfl (Y.eql rfl rfl) (fun c33 h => ?_) (fun c33 h => ?_)
          ·
           refine L.y rfl (Y.move rfl) ?_
           refine L.pass rfl rfl (by nofun) ?_
           refine L.pass rfl rfl (by nofun) ?_
           refine L.pass rfl rfl (by nofun) ?_
           refine L.pass rfl rfl (by nofun) ?_
           refine L.y rfl (Y.pickT rfl rfl) ?_
           refine L.y rfl (Y.assign rfl) ?_
           refine L.nil (E.thenN (W.ret (E.ret1 rfl rfl (fun w1 hw => ?_))))
           exact ⟨_, _, rfl, ⟨true, rfl, rfl, h⟩, hw.sel [1, 2, 3] (by decide) rfl⟩
          ·
           refine L.y rfl (Y.move rfl) ?_
           refine L.take rfl (L.y rfl (Y.fieldP fd46_1 rfl) ?_)
           refine L.take rfl (L.y rfl (Y.loadP (i := 0) ag3 rfl rfl rfl) ?_)
           refine L.take rfl (L.y rfl (Y.loadP (i := 1) ag3 rfl rfl rfl) ?_)
           refine L.take rfl (L.y rfl (Y.eql rfl rfl) ?_)
           refine L.y rfl (Y.pickF rfl rfl) ?_
           refine L.y rfl (Y.assign rfl) ?_
           refine L.nil (E.thenN (W.ret (E.ret1 rfl rfl (fun w1 hw => ?_))))
           exact ⟨_, _, rfl, ⟨decide (x30.To = gx5), rfl, rfl, h⟩, hw.sel [1, 2, 3] (by decide) rfl⟩
         ·
          rintro _ _ ⟨gb16, rfl, rfl, h⟩
          rw [m16_wait_Victims_K11] at h
          rcases gb16 with _ | _
          ·
           replace h := iteF h
           refine L.nil (E.thenN (W.condF rfl ?_))
           refine W.skip (E.blockN (E.thenN (W.region (L.m (V := fun x31 => .int .i64 x31) h rfl (Y.addM rfl rfl) (fun x31 ex31 h => ?_)))))
           refine L.y rfl (Y.move rfl) ?_
           exact L.nil (E.againJ ⟨x31, rfl, rfl, by rw [hg3]; exact h⟩ (Nat.lt_succ_self _) ⟨rfl, rfl, rfl, rfl, trivial⟩ (fun _ hw => hw))
          ·
           replace h := iteT h
           refine L.nil (E.thenN (W.condT rfl ?_))
           refine W.seq (W.region (L.y rfl (Y.move rfl) ?_))
           refine L.y rfl (Y.assign rfl) ?_
           refine L.nil (E.thenN (W.ret (E.blockR (E.thenR (E.KLR (E.blockR (E.KSR (E.ret1 rfl rfl (fun w1 hw => ?_)))))))))
           exact ⟨_, _, rfl, ⟨gx15, rfl, rfl, h⟩, hw⟩
        ·
         refine L.nil (E.thenN (W.seq (W.condF rfl ?_)))
         exact W.exit (E.thenX (E.KLX (E.blockX (E.joinJ ⟨rfl, rfl, h⟩ trivial (fun _ hw => hw.sel [0, 2, 1] (by decide) rfl)))))
       ·
        rintro _ _ ⟨rfl, rfl, h⟩
        rw [m16_wait_Victims_K10] at h
        refine W.seq (W.region (L.y rfl (Y.assign rfl) ?_))
        refine L.nil (E.thenN (W.ret (E.ret1 rfl rfl (fun w1 hw => ?_))))
        exact ⟨_, _, rfl, ⟨(-1), rfl, rfl, h⟩, hw.sel [0, 2, 1] (by decide) rfl⟩
      ·
       rintro _ _ ⟨gx8, rfl, rfl, h⟩
       rw [m16_wait_Victims_K5] at h
       refine L.y rfl (Y.assign rfl) ?_
       refine L.nil (E.thenN (W.seqJ (fun gs D => gs = [(0, gv1), (1, .func (.func 32) #[] #[pt b4 0]), (5, .int .i64 gx8)] ∧ D = Cls w [] [.obj b4 [.int .i64 gx5] 3, .sl gv1 46 2 (gl2.map TEdge.row), .sl v11 3 1 (l12.map I)] ∧ m16_wait_Victims_K6 gx8 gx5 go1 l12 gl2 = some r) ?_ ?_))
       ·
        refine W.seq (W.region (L.y rfl (Y.move rfl) ?_))
        refine L.ite h rfl (Y.eql rfl rfl) (fun c28 h => ?_) (fun c28 h => ?_)
        ·
         refine L.nil (E.thenN (W.condT rfl ?_))
         refine W.seq (W.region (L.y rfl (Y.move rfl) ?_))
         refine L.y rfl (Y.assign rfl) ?_
         refine L.nil (E.thenN (W.ret (E.KSR (E.ret1 rfl rfl (fun w1 hw => ?_)))))
         exact ⟨_, _, rfl, ⟨gv1, gl2, rfl, rfl, h⟩, hw.sel [2, 1] (by decide) rfl⟩
        ·
         refine L.nil (E.thenN (W.condF rfl ?_))
         exact W.skip (E.joinJ ⟨rfl, rfl, h⟩ ⟨rfl, rfl, rfl, trivial⟩ (fun _ hw => hw))
       ·
        rintro _ _ ⟨rfl, rfl, h⟩
        rw [m16_wait_Victims_K6] at h
        refine W.seqJ (fun gs D => ∃ (gl9 : (List TEdge)) (gx10 : Int), gs = [(0, gv1), (5, .int .i64 gx10)] ∧ D = Cls w [] [.sl gv1 46 2 (gl9.map TEdge.row), .sl v11 3 1 (l12.map I)] ∧ m16_wait_Victims_K7 go1 l12 gl9 gx10 = some r) ?_ ?_
        ·
         refine W.seq (W.region (L.y rfl (Y.move rfl) ?_))
         refine L.m (V := fun x17 => .int .i64 x17) h rfl (Y.addM rfl rfl) (fun x17 ex17 h => ?_)
         refine L.y rfl (Y.assign rfl) ?_
         refine L.nil (E.thenN (W.block (W.loopJ (fun m gs D => ∃ (gl11 : (List TEdge)) (gx12 : Int) (gx13 : Int), gs = [(0, gv1), (1, .func (.func 32) #[] #[pt b4 0]), (5, .int .i64 gx12), (6, .int .i64 gx13)] ∧ D = Cls w [] [.obj b4 [.int .i64 gx5] 3, .sl gv1 46 2 (gl11.map TEdge.row), .sl v11 3 1 (l12.map I)] ∧ m16_wait_Victims_L2 gx5 go1 l12 m gl11 gx12 gx13 = some r) ⟨gl2, gx8, x17, rfl, rfl, h⟩ ⟨rfl, rfl, rfl, rfl, trivial⟩ (fun _ hw => hw) ?_)))
         rintro m _ _ ⟨gl11, gx12, gx13, rfl, rfl, h⟩
         rcases m with _ | m
         · rw [m16_wait_Victims_L2] at h; cases h
         rw [m16_wait_Victims_L2] at h
         generalize hg2 : m16_wait_Victims_L2 gx5 go1 l12 m = go2 at h
         rw [m16_wait_Victims_L2B] at h
         refine W.seqJ (fun gs D => gs = [(0, gv1), (1, .func (.func 32) #[] #[pt b4 0]), (5, .int .i64 gx12), (6, .int .i64 gx13)] ∧ D = Cls w [] [.obj b4 [.int .i64 gx5] 3, .sl gv1 46 2 (gl11.map TEdge.row), .sl v11 3 1 (l12.map I)] ∧ m16_wait_Victims_K8 gl11 gx13 gx5 go2 gx12 = some r) ?_ ?_
         ·
          refine W.seq (W.region (L.y rfl (Y.move rfl) ?_))
          refine L.y rfl (Y.move rfl) ?_
          refine L.y rfl (Y.lenM (g := TEdge.row) (l := gl11) Try.underlying22 rfl (fun w hw => As.at_ (hw.get (i := 1) rfl))) ?_
          refine L.ite h rfl (Y.lss rfl rfl) (fun c27 h => ?_) (fun c27 h => ?_)
          ·
           refine L.nil (E.thenN (W.condT rfl ?_))
           exact W.skip (E.joinJ ⟨rfl, rfl, h⟩ ⟨rfl, rfl, rfl, rfl, trivial⟩ (fun _ hw => hw))
          ·
           refine L.nil (E.thenN (W.condF rfl ?_))
           exact W.exit (E.KSX (E.KLX (E.blockX (E.joinJ ⟨gl11, gx12, rfl, rfl, h⟩ ⟨rfl, rfl, trivial⟩ (fun _ hw => hw.sel [1, 2] (by decide) rfl)))))
         ·
          rintro _ _ ⟨rfl, rfl, h⟩
          rw [m16_wait_Victims_K8] at h
          refine W.seq (W.block (W.seq (W.region (L.y rfl (Y.move rfl) ?_))))
          refine L.y rfl (Y.move rfl) ?_
          refine L.m (V := fun _ => el gv1 (gx13.toNat * 2)) h rfl (Y.indexM (g := TEdge.row) (l := gl11) Try.underlying22 sz46 rfl rfl (fun w hw => As.at_ (hw.get (i := 1) rfl))) (fun x18 ex18 h => ?_)
          refine L.y rfl (Y.loadEN (r := [.int .i64 x18.From, .int .i64 x18.To]) ag46 sz46 rfl (fun w hw => As.at_ (hw.get (i := 1) rfl)) (idx_map ex18) rfl) ?_
          refine L.alloc rfl ze46 ?_
          intro b19
          refine L.store (i := 0) (vs := [.int .i64 x18.From, .int .i64 x18.To]) sz46 rfl rfl rfl rfl (by simp [Value.oneCell', Value.cells, st, pt, el]) rfl (Nat.le_of_ble_eq_true rfl) ?_
          refine L.nil (E.thenN (W.seq (W.region (L.y rfl (Y.move rfl) ?_))))
          refine L.y rfl (Y.loadPW (i := 0) ag46 sz46 rfl rfl rfl) ?_
          refine L.callVJ (fun v D => ∃ (gb14 : Bool), v = .bool gb14 ∧ D = Cls w [] [.obj b19 [.int .i64 x18.From, .int .i64 x18.To] 46, .obj b4 [.int .i64 gx5] 3, .sl gv1 46 2 (gl11.map TEdge.row), .sl v11 3 1 (l12.map I)] ∧ m16_wait_Victims_K9 gx13 go2 gl11 gx12 x18 gb14 = some r) rfl en32 rfl rfl Try.func32 rfl rfl rfl ?_ ?_
          ·
           refine W.seq (W.region (L.box rfl rfl ?_))
           intro b25
           refine L.y rfl (Y.assign rfl) ?_
           refine L.nil (E.thenN (W.seq (W.region (L.y rfl (Y.fieldP fd46_0 rfl) ?_))))
           refine L.y rfl (Y.loadP (i := 0) ag3 rfl rfl rfl) ?_
           refine L.y rfl (Y.loadP (i := 2) ag3 rfl rfl rfl) ?_
           refine L.ite h rfl (Y.eql rfl rfl) (fun c26 h => ?_) (fun c26 h => ?_)
           ·
            refine L.y rfl (Y.move rfl) ?_
            refine L.pass rfl rfl (by nofun) ?_
            refine L.pass rfl rfl (by nofun) ?_
            refine L.pass rfl rfl (by nofun) ?_
            refine L.pass rfl rfl (by nofun) ?_
            refine L.y rfl (Y.pickT rfl rfl) ?_
            refine L.y rfl (Y.assign rfl) ?_
            refine L.nil (E.thenN (W.ret (E.ret1 rfl rfl (fun w1 hw => ?_))))
            exact ⟨_, _, rfl, ⟨true, rfl, rfl, h⟩, hw.sel [1, 2, 3, 4] (by decide) rfl⟩
           ·
            refine L.y rfl (Y.move rfl) ?_
            refine L.take rfl (L.y rfl (Y.fieldP fd46_1 rfl) ?_)
            refine L.take rfl (L.y rfl (Y.loadP (i := 0) ag3 rfl rfl rfl) ?_)
            refine L.take rfl (L.y rfl (Y.loadP (i := 2) ag3 rfl rfl rfl) ?_)
            refine L.take rfl (L.y rfl (Y.eql rfl rfl) ?_)
            refine L.y rfl (Y.pickF rfl rfl) ?_
            refine L.y rfl (Y.assign rfl) ?_
            refine L.nil (E.thenN (W.ret (E.ret1 rfl rfl (fun w1 hw => ?_))))
            exact ⟨_, _, rfl, ⟨decide (x18.To = gx5), rfl, rfl, h⟩, hw.sel [1, 2, 3, 4] (by decide) rfl⟩
          ·
           rintro _ _ ⟨gb14, rfl, rfl, h⟩
           rw [m16_wait_Victims_K9] at h
           rcases gb14 with _ | _
           ·
            replace h := iteF h
            refine L.y rfl (Y.not rfl) ?_
            refine L.nil (E.thenN (W.condT rfl ?_))
            refine W.seq (W.region (L.y rfl (Y.move rfl) ?_))
            refine L.y rfl (Y.move rfl) ?_
            refine L.y rfl (Y.loadPW (i := 0) ag46 sz46 rfl rfl rfl) ?_
            refine L.m (V := fun _ => el gv1 (gx12.toNat * 2)) h rfl (Y.indexM (g := TEdge.row) (l := gl11) Try.underlying22 sz46 rfl rfl (fun w hw => As.at_ (hw.get (i := 2) rfl))) (fun x20 ex20 h => ?_)
            refine L.storeSlM (q := 2) (row := TEdge.row) (vs := [.int .i64 x18.From, .int .i64 x18.To]) (j := 0) (u1 := x18) h sz46 rfl rfl rfl rfl rfl (all1 rfl (all1 rfl all0)) rfl ex20 rfl rfl ?_
            intro l21 el21 h
            refine L.nil (E.thenN (W.region (L.y rfl (Y.move rfl) ?_)))
            refine L.m (V := fun x22 => .int .i64 x22) h rfl (Y.addM rfl rfl) (fun x22 ex22 h => ?_)
            refine L.y rfl (Y.assign rfl) ?_
            refine L.nil (E.blockN (E.thenN (W.region (L.y rfl (Y.move rfl) ?_))))
            refine L.m (V := fun x23 => .int .i64 x23) h rfl (Y.addM rfl rfl) (fun x23 ex23 h => ?_)
            refine L.y rfl (Y.assign rfl) ?_
            exact L.nil (E.againJ ⟨l21, x22, x23, rfl, rfl, by rw [hg2]; exact h⟩ (Nat.lt_succ_self _) ⟨rfl, rfl, rfl, rfl, trivial⟩ (fun _ hw => hw.sel [1, 2, 3] (by decide) rfl))
           ·
            replace h := iteT h
            refine L.y rfl (Y.not rfl) ?_
            refine L.nil (E.thenN (W.condF rfl ?_))
            refine W.skip (E.blockN (E.thenN (W.region (L.y rfl (Y.move rfl) ?_))))
            refine L.m (V := fun x24 => .int .i64 x24) h rfl (Y.addM rfl rfl) (fun x24 ex24 h => ?_)
            refine L.y rfl (Y.assign rfl) ?_
            exact L.nil (E.againJ ⟨gl11, gx12, x24, rfl, rfl, by rw [hg2]; exact h⟩ (Nat.lt_succ_self _) ⟨rfl, rfl, rfl, rfl, trivial⟩ (fun _ hw => hw.sel [1, 2, 3] (by decide) rfl))
        ·
         rintro _ _ ⟨gl9, gx10, rfl, rfl, h⟩
         rw [m16_wait_Victims_K7] at h
         refine W.seq (W.region (L.y rfl (Y.move rfl) ?_))
         refine L.y rfl (Y.move rfl) ?_
         refine L.m (V := fun _ => dropv gv1 gx10.toNat 2) h rfl (Y.dropM (g := TEdge.row) Try.underlying22 sz46 rfl rfl (fun w hw => As.at_ (hw.get (i := 0) rfl))) (fun l13 el13 h => ?_)
         refine L.clearM (i := 0) (g := TEdge.row) (z0 := (⟨0, 0⟩ : TEdge)) (a := gx10) h Try.underlying22 eL46 ze46 (fun u hu => ((plain_TEdge _) : Plain ([(⟨0, 0⟩ : TEdge)].map TEdge.row)) _ (List.mem_cons_self ..) u hu) rfl rfl ?_
         intro l14 el14 h
         refine L.nil (E.thenN (W.seq (W.region (L.y rfl (Y.move rfl) ?_))))
         refine L.y rfl (Y.move rfl) ?_
         obtain ⟨l15, el15, h⟩ := bind1S h
         refine L.cutM (i := 0) (g := TEdge.row) el15 rfl Try.underlying22 sz46 rfl rfl rfl (fun v16 => ?_)
         refine L.y rfl (Y.assign rfl) ?_
         refine L.nil (E.thenN (W.ret (E.ret1 rfl rfl (fun w1 hw => ?_))))
         exact ⟨_, _, rfl, ⟨v16, l15, rfl, rfl, h⟩, hw.sel [1, 0] (by decide) rfl⟩
     ·
      rintro gv6 _ ⟨_, gl7, rfl, rfl, h⟩
      rw [m16_wait_Victims_K4] at h
      refine L.y rfl (Y.assign rfl) ?_
      exact L.nil (E.blockN (E.againJ ⟨gv6, gl7, v11, l12, rfl, rfl, by rw [hg1]; exact h⟩ (Nat.lt_succ_self _) ⟨rfl, rfl, rfl, trivial⟩ (fun _ hw => hw.sel [1, 0] (by decide) rfl)))
set_option maxRecDepth 100000 in
set_option maxHeartbeats 8000000 in
theorem w17_wait_Rule (a0 : Int) (a1 : Int) (a2 : Int) (w : World) (r : (Int × Int)) (h : m17_wait_Rule a0 a1 a2 = some r) : Does Try.prog 17 [.int .i64 a0, .int .i64 a1, .int .i64 a2] w fun u m => u = .tuple #[.int .i64 r.1, .int .i64 r.2] ∧ m = [] := by
  rw [m17_wait_Rule] at h
  refine body (n := 36) Try.func17 rfl rfl rfl (Cls.refl w) ?_
  refine W.seq (W.region (L.y rfl (Y.assign rfl) ?_))
  refine L.y rfl (Y.assign rfl) ?_
  refine L.nil (E.thenN (W.seqJ (fun gs D => gs = [(0, .int .i64 a0), (1, .int .i64 a1), (2, .int .i64 a2)] ∧ D = Cls w [] [] ∧ m17_wait_Rule_K1 a1 a2 a0 = some r) ?_ ?_))
  ·
   refine W.seq (W.region (L.y rfl (Y.move rfl) ?_))
   refine L.ite h rfl (Y.neq rfl rfl) (fun c10 h => ?_) (fun c10 h => ?_)
   ·
    refine L.y rfl (Y.move rfl) ?_
    refine L.take rfl (L.y rfl (Y.move rfl) ?_)
    refine L.take rfl (L.ite h rfl (Y.neq rfl rfl) (fun c11 h => ?_) (fun c11 h => ?_))
    ·
     refine L.y rfl (Y.pickT rfl rfl) ?_
     refine L.nil (E.thenN (W.condT rfl ?_))
     refine W.seq (W.region (L.y rfl (Y.assign rfl) ?_))
     refine L.y rfl (Y.assign rfl) ?_
     refine L.nil (E.thenN (W.ret (E.KSR (E.ret2 rfl rfl rfl (fun w1 hw => ?_)))))
     obtain rfl := Option.some.inj h
     exact ⟨_, _, rfl, ⟨rfl, rfl⟩, hw⟩
    ·
     refine L.y rfl (Y.pickT rfl rfl) ?_
     refine L.nil (E.thenN (W.condF rfl ?_))
     exact W.skip (E.joinJ ⟨rfl, rfl, h⟩ ⟨rfl, rfl, rfl, trivial⟩ (fun _ hw => hw))
   ·
    refine L.y rfl (Y.move rfl) ?_
    refine L.pass rfl rfl (by nofun) ?_
    refine L.pass rfl rfl (by nofun) ?_
    refine L.y rfl (Y.pickF rfl rfl) ?_
    refine L.nil (E.thenN (W.condF rfl ?_))
    exact W.skip (E.joinJ ⟨rfl, rfl, h⟩ ⟨rfl, rfl, rfl, trivial⟩ (fun _ hw => hw))
  ·
   rintro _ _ ⟨rfl, rfl, h⟩
   rw [m17_wait_Rule_K1] at h
   refine W.seqJ (fun gs D => gs = [(0, .int .i64 a0), (1, .int .i64 a1), (2, .int .i64 a2)] ∧ D = Cls w [] [] ∧ m17_wait_Rule_K2 a1 a2 a0 = some r) ?_ ?_
   ·
    refine W.seq (W.region (L.y rfl (Y.move rfl) ?_))
    refine L.y rfl (Y.move rfl) ?_
    refine L.ite h rfl (Y.eql rfl rfl) (fun c9 h => ?_) (fun c9 h => ?_)
    ·
     refine L.nil (E.thenN (W.condT rfl ?_))
     refine W.seq (W.region (L.y rfl (Y.assign rfl) ?_))
     refine L.y rfl (Y.assign rfl) ?_
     refine L.nil (E.thenN (W.ret (E.KSR (E.ret2 rfl rfl rfl (fun w1 hw => ?_)))))
     obtain rfl := Option.some.inj h
     exact ⟨_, _, rfl, ⟨rfl, rfl⟩, hw⟩
    ·
     refine L.nil (E.thenN (W.condF rfl ?_))
     exact W.skip (E.joinJ ⟨rfl, rfl, h⟩ ⟨rfl, rfl, rfl, trivial⟩ (fun _ hw => hw))
   ·
    rintro _ _ ⟨rfl, rfl, h⟩
    rw [m17_wait_Rule_K2] at h
    refine W.seqJ (fun gs D => ∃ (gb1 : Bool), gs = [(0, .int .i64 a0), (8, .bool gb1)] ∧ D = Cls w [] [] ∧ m17_wait_Rule_K3 a0 gb1 = some r) ?_ ?_
    ·
     refine W.region (L.y rfl (Y.move rfl) ?_)
     refine L.y rfl (Y.move rfl) ?_
     refine L.ite h rfl (Y.lss rfl rfl) (fun c8 h => ?_) (fun c8 h => ?_)
     ·
      refine L.y rfl (Y.assign rfl) ?_
      exact L.nil (E.joinJ ⟨true, rfl, rfl, h⟩ ⟨rfl, rfl, trivial⟩ (fun _ hw => hw))
     ·
      refine L.y rfl (Y.assign rfl) ?_
      exact L.nil (E.joinJ ⟨false, rfl, rfl, h⟩ ⟨rfl, rfl, trivial⟩ (fun _ hw => hw))
    ·
     rintro _ _ ⟨gb1, rfl, rfl, h⟩
     rw [m17_wait_Rule_K3] at h
     rcases gb1 with _ | _
     ·
      replace h := iteF h
      refine W.seqJ (fun gs D => gs = [] ∧ D = Cls w [] [] ∧ m17_wait_Rule_K4 = some r) ?_ ?_
      ·
       refine W.block (W.seqJ (fun gs D => ∃ (gb2 : Bool), gs = [(0, .int .i64 a0), (21, .bool gb2)] ∧ D = Cls w [] [] ∧ m17_wait_Rule_K5 a0 gb2 = some r) ?_ ?_)
       ·
        refine W.seq (W.region (L.y rfl (Y.move rfl) ?_))
        refine L.ite h rfl (Y.eql rfl rfl) (fun c2 h => ?_) (fun c2 h => ?_)
        ·
         refine L.y rfl (Y.move rfl) ?_
         refine L.take rfl (L.y rfl (Y.move rfl) ?_)
         refine L.y rfl (Y.pickT rfl rfl) ?_
         refine L.y rfl (Y.assign rfl) ?_
         refine L.nil (E.thenN (W.condF rfl ?_))
         refine W.region (L.y rfl (Y.move rfl) ?_)
         refine L.ite h rfl (Y.eql rfl rfl) (fun c3 h => ?_) (fun c3 h => ?_)
         ·
          refine L.y rfl (Y.move rfl) ?_
          refine L.take rfl (L.y rfl (Y.move rfl) ?_)
          refine L.take rfl (L.y rfl (Y.not rfl) ?_)
          refine L.y rfl (Y.pickT rfl rfl) ?_
          refine L.y rfl (Y.assign rfl) ?_
          exact L.nil (E.joinJ ⟨true, rfl, rfl, h⟩ ⟨rfl, rfl, trivial⟩ (fun _ hw => hw))
         ·
          refine L.y rfl (Y.move rfl) ?_
          refine L.pass rfl rfl (by nofun) ?_
          refine L.pass rfl rfl (by nofun) ?_
          refine L.y rfl (Y.pickF rfl rfl) ?_
          refine L.y rfl (Y.assign rfl) ?_
          exact L.nil (E.joinJ ⟨false, rfl, rfl, h⟩ ⟨rfl, rfl, trivial⟩ (fun _ hw => hw))
        ·
         refine L.y rfl (Y.move rfl) ?_
         refine L.pass rfl rfl (by nofun) ?_
         refine L.y rfl (Y.pickF rfl rfl) ?_
         refine L.y rfl (Y.assign rfl) ?_
         refine L.nil (E.thenN (W.condF rfl ?_))
         refine W.region (L.y rfl (Y.move rfl) ?_)
         refine L.ite h rfl (Y.eql rfl rfl) (fun c4 h => ?_) (fun c4 h => ?_)
         ·
          refine L.y rfl (Y.move rfl) ?_
          refine L.take rfl (L.y rfl (Y.move rfl) ?_)
          refine L.take rfl (L.y rfl (Y.not rfl) ?_)
          refine L.y rfl (Y.pickT rfl rfl) ?_
          refine L.y rfl (Y.assign rfl) ?_
          exact L.nil (E.joinJ ⟨true, rfl, rfl, h⟩ ⟨rfl, rfl, trivial⟩ (fun _ hw => hw))
         ·
          refine L.y rfl (Y.move rfl) ?_
          refine L.pass rfl rfl (by nofun) ?_
          refine L.pass rfl rfl (by nofun) ?_
          refine L.y rfl (Y.pickF rfl rfl) ?_
          refine L.y rfl (Y.assign rfl) ?_
          exact L.nil (E.joinJ ⟨false, rfl, rfl, h⟩ ⟨rfl, rfl, trivial⟩ (fun _ hw => hw))
       ·
        rintro _ _ ⟨gb2, rfl, rfl, h⟩
        rw [m17_wait_Rule_K5] at h
        rcases gb2 with _ | _
        ·
         replace h := iteF h
         refine W.condF rfl ?_
         refine W.seq (W.region (L.y rfl (Y.move rfl) ?_))
         refine L.ite h rfl (Y.eql rfl rfl) (fun c1 h => ?_) (fun c1 h => ?_)
         ·
          refine L.y rfl (Y.assign rfl) ?_
          refine L.nil (E.thenN (W.condT rfl ?_))
          refine W.seq (W.region (L.y rfl (Y.assign rfl) ?_))
          refine L.y rfl (Y.assign rfl) ?_
          refine L.nil (E.thenN (W.ret (E.blockR (E.KSR (E.ret2 rfl rfl rfl (fun w1 hw => ?_))))))
          obtain rfl := Option.some.inj h
          exact ⟨_, _, rfl, ⟨rfl, rfl⟩, hw⟩
         ·
          refine L.y rfl (Y.assign rfl) ?_
          refine L.nil (E.thenN (W.condF rfl ?_))
          exact W.skip (E.blockN (E.joinJ ⟨rfl, rfl, h⟩ trivial (fun _ hw => hw)))
        ·
         replace h := iteT h
         refine W.condT rfl ?_
         refine W.seq (W.region (L.y rfl (Y.assign rfl) ?_))
         refine L.y rfl (Y.assign rfl) ?_
         refine L.nil (E.thenN (W.ret (E.blockR (E.KSR (E.ret2 rfl rfl rfl (fun w1 hw => ?_))))))
         obtain rfl := Option.some.inj h
         exact ⟨_, _, rfl, ⟨rfl, rfl⟩, hw⟩
      ·
       rintro _ _ ⟨rfl, rfl, h⟩
       rw [m17_wait_Rule_K4] at h
       refine W.seq (W.region (L.y rfl (Y.assign rfl) ?_))
       refine L.y rfl (Y.assign rfl) ?_
       refine L.nil (E.thenN (W.ret (E.ret2 rfl rfl rfl (fun w1 hw => ?_))))
       obtain rfl := Option.some.inj h
       exact ⟨_, _, rfl, ⟨rfl, rfl⟩, hw⟩
     ·
      replace h := iteT h
      refine W.seqJ (fun gs D => gs = [] ∧ D = Cls w [] [] ∧ m17_wait_Rule_K6 = some r) ?_ ?_
      ·
       refine W.block (W.seqJ (fun gs D => ∃ (gb3 : Bool), gs = [(0, .int .i64 a0), (21, .bool gb3)] ∧ D = Cls w [] [] ∧ m17_wait_Rule_K7 a0 gb3 = some r) ?_ ?_)
       ·
        refine W.seq (W.region (L.y rfl (Y.move rfl) ?_))
        refine L.ite h rfl (Y.eql rfl rfl) (fun c6 h => ?_) (fun c6 h => ?_)
        ·
         refine L.y rfl (Y.move rfl) ?_
         refine L.take rfl (L.y rfl (Y.move rfl) ?_)
         refine L.y rfl (Y.pickT rfl rfl) ?_
         refine L.y rfl (Y.assign rfl) ?_
         refine L.nil (E.thenN (W.condT rfl ?_))
         exact W.skip (E.joinJ ⟨true, rfl, rfl, h⟩ ⟨rfl, rfl, trivial⟩ (fun _ hw => hw))
        ·
         refine L.y rfl (Y.move rfl) ?_
         refine L.pass rfl rfl (by nofun) ?_
         refine L.y rfl (Y.pickF rfl rfl) ?_
         refine L.y rfl (Y.assign rfl) ?_
         refine L.nil (E.thenN (W.condF rfl ?_))
         refine W.region (L.y rfl (Y.move rfl) ?_)
         refine L.ite h rfl (Y.eql rfl rfl) (fun c7 h => ?_) (fun c7 h => ?_)
         ·
          refine L.y rfl (Y.move rfl) ?_
          refine L.take rfl (L.y rfl (Y.move rfl) ?_)
          refine L.take rfl (L.y rfl (Y.not rfl) ?_)
          refine L.y rfl (Y.pickT rfl rfl) ?_
          refine L.y rfl (Y.assign rfl) ?_
          exact L.nil (E.joinJ ⟨false, rfl, rfl, h⟩ ⟨rfl, rfl, trivial⟩ (fun _ hw => hw))
         ·
          refine L.y rfl (Y.move rfl) ?_
          refine L.pass rfl rfl (by nofun) ?_
          refine L.pass rfl rfl (by nofun) ?_
          refine L.y rfl (Y.pickF rfl rfl) ?_
          refine L.y rfl (Y.assign rfl) ?_
          exact L.nil (E.joinJ ⟨false, rfl, rfl, h⟩ ⟨rfl, rfl, trivial⟩ (fun _ hw => hw))
       ·
        rintro _ _ ⟨gb3, rfl, rfl, h⟩
        rw [m17_wait_Rule_K7] at h
        rcases gb3 with _ | _
        ·
         replace h := iteF h
         refine W.condF rfl ?_
         refine W.seq (W.region (L.y rfl (Y.move rfl) ?_))
         refine L.ite h rfl (Y.eql rfl rfl) (fun c5 h => ?_) (fun c5 h => ?_)
         ·
          refine L.y rfl (Y.assign rfl) ?_
          refine L.nil (E.thenN (W.condT rfl ?_))
          refine W.seq (W.region (L.y rfl (Y.assign rfl) ?_))
          refine L.y rfl (Y.assign rfl) ?_
          refine L.nil (E.thenN (W.ret (E.blockR (E.KSR (E.ret2 rfl rfl rfl (fun w1 hw => ?_))))))
          obtain rfl := Option.some.inj h
          exact ⟨_, _, rfl, ⟨rfl, rfl⟩, hw⟩
         ·
          refine L.y rfl (Y.assign rfl) ?_
          refine L.nil (E.thenN (W.condF rfl ?_))
          exact W.skip (E.blockN (E.joinJ ⟨rfl, rfl, h⟩ trivial (fun _ hw => hw)))
        ·
         replace h := iteT h
         refine W.condT rfl ?_
         refine W.seq (W.region (L.y rfl (Y.assign rfl) ?_))
         refine L.y rfl (Y.assign rfl) ?_
         refine L.nil (E.thenN (W.ret (E.blockR (E.KSR (E.ret2 rfl rfl rfl (fun w1 hw => ?_))))))
         obtain rfl := Option.some.inj h
         exact ⟨_, _, rfl, ⟨rfl, rfl⟩, hw⟩
      ·
       rintro _ _ ⟨rfl, rfl, h⟩
       rw [m17_wait_Rule_K6] at h
       refine W.seq (W.region (L.y rfl (Y.assign rfl) ?_))
       refine L.y rfl (Y.assign rfl) ?_
       refine L.nil (E.thenN (W.ret (E.ret2 rfl rfl rfl (fun w1 hw => ?_))))
       obtain rfl := Option.some.inj h
       exact ⟨_, _, rfl, ⟨rfl, rfl⟩, hw⟩
end Go.Proofs.Ytjhcdmcikodgkaa
