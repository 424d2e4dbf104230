/-
  Walks, printed by a program of mine.
  Conditions: none.
-/
import Derived.Test.YtdebhhjbgbkbjaaTrW1
import Derived.Test.YtdebhhjbgbkbjaaChecked
import Derived.KernelRfl
import Derived.Test.YtdebhhjbgbkbjaaTrO
namespace Go.Proofs.Ytdebhhjbgbkbjaa
open Go.S
set_option linter.unusedVariables false
set_option linter.unusedSimpArgs false
set_option maxRecDepth 100000 in
set_option maxHeartbeats 8000000 in
theorem w36_tree_node_join (a0 : Int) (a1 : Int) (A46 : (List Tnode)) (H : (List Nat)) (gP46 : Nat → Nat) (qP46 : Nat → List Value) (w : World) (r : (List Tnode)) (h : m36_tree_node_join a0 a1 A46 H = some r) (F : List Nat) (hc0 : Cls w F [ar46 gP46 qP46 A46 H] w) : DoesF Try.prog 36 [VP gP46 a0, .int .i64 a1] F w fun u m => ∃ Q46, u = .tuple #[] ∧ m = [ar46 gP46 Q46 r H] := by
  rw [m36_tree_node_join] at h
  refine body (n := 109) Try.func36 rfl rfl rfl hc0 ?_
  refine W.seq ?_
  obtain ⟨u1, eu1, h⟩ := bind1S h
  obtain ⟨_, c2, h⟩ := bind1S h
  refine W.to (D := Cls w F [.obj (gP46 a0.toNat) [(gv (qP46 a0.toNat) 0), (gv (qP46 a0.toNat) 1), (gv (qP46 a0.toNat) 2)] 46, .sl (gv (qP46 a0.toNat) 0) 3 1 (u1.keys_.map I), .sl (gv (qP46 a0.toNat) 1) 9 1 (u1.texts_.map SR), .sl (gv (qP46 a0.toNat) 2) 42 1 (u1.kids_.map (PR gP46)), ar46 gP46 qP46 A46 (a0.toNat :: H)]) (fun _ hw => hw.arOpen (p := 0) rfl eu1 (ck_some c2)) ?_
  refine W.quietC mixed (by kernel_rfl) (fun _ hw => hw.drew) (fun hC => ?_)
  refine U.y rfl (Y.move rfl) ?_
  refine U.y rfl (Y.apNil rfl eu1) ?_
  refine U.y rfl (Y.fieldP fd46_2 rfl) ?_
  refine U.y rfl (Y.loadP (i := 0) ag44 rfl rfl rfl) ?_
  refine U.y rfl (Y.move rfl) ?_
  refine U.m (V := fun _ => el (gv (qP46 a0.toNat) 2) (a1.toNat * 1)) h rfl (Y.indexM (g := (PR gP46)) (l := u1.kids_) Try.underlying44 sz42 rfl rfl (fun w hw => As.at_ (hw.get (i := 3) rfl))) (fun x3 ex3 h => ?_)
  refine U.y rfl (Y.loadE1 (u := VP gP46 x3) ag42 rfl (fun w hw => As.at_ (hw.get (i := 3) rfl)) (idx_map ex3)) ?_
  refine U.y rfl (Y.move rfl) ?_
  refine U.y rfl (Y.apNil rfl eu1) ?_
  refine U.y rfl (Y.fieldP fd46_2 rfl) ?_
  refine U.y rfl (Y.loadP (i := 0) ag44 rfl rfl rfl) ?_
  refine U.y rfl (Y.move rfl) ?_
  refine U.m (V := fun x4 => .int .i64 x4) h rfl (Y.addM rfl rfl) (fun x4 ex4 h => ?_)
  refine U.m (V := fun _ => el (gv (qP46 a0.toNat) 2) (x4.toNat * 1)) h rfl (Y.indexM (g := (PR gP46)) (l := u1.kids_) Try.underlying44 sz42 rfl rfl (fun w hw => As.at_ (hw.get (i := 3) rfl))) (fun x5 ex5 h => ?_)
  refine U.y rfl (Y.loadE1 (u := VP gP46 x5) ag42 rfl (fun w hw => As.at_ (hw.get (i := 3) rfl)) (idx_map ex5)) ?_
  refine U.y rfl (Y.assign rfl) ?_
  refine U.y rfl (Y.assign rfl) ?_
  refine U.nil (E.thenN (W.seq ?_))
  obtain ⟨u6, eu6, h⟩ := bind1S h
  obtain ⟨_, c7, h⟩ := bind1S h
  obtain ⟨_, c8, h⟩ := bind1S h
  refine W.to (D := Cls w F [.obj (gP46 x3.toNat) [(gv (qP46 x3.toNat) 0), (gv (qP46 x3.toNat) 1), (gv (qP46 x3.toNat) 2)] 46, .sl (gv (qP46 x3.toNat) 0) 3 1 (u6.keys_.map I), .sl (gv (qP46 x3.toNat) 1) 9 1 (u6.texts_.map SR), .sl (gv (qP46 x3.toNat) 2) 42 1 (u6.kids_.map (PR gP46)), ar46 gP46 qP46 A46 (x3.toNat :: a0.toNat :: H), .obj (gP46 a0.toNat) [(gv (qP46 a0.toNat) 0), (gv (qP46 a0.toNat) 1), (gv (qP46 a0.toNat) 2)] 46, .sl (gv (qP46 a0.toNat) 0) 3 1 (u1.keys_.map I), .sl (gv (qP46 a0.toNat) 1) 9 1 (u1.texts_.map SR), .sl (gv (qP46 a0.toNat) 2) 42 1 (u1.kids_.map (PR gP46))]) (fun _ hw => hw.arOpen (p := 4) rfl eu6 (nin1 (ck_some c8) eu6 eu1 (ck_some c7))) ?_
  obtain ⟨u9, eu9, h⟩ := bind1S h
  obtain ⟨_, c10, h⟩ := bind1S h
  obtain ⟨_, c11, h⟩ := bind1S h
  obtain ⟨_, c12, h⟩ := bind1S h
  refine W.to (D := Cls w F [.obj (gP46 x5.toNat) [(gv (qP46 x5.toNat) 0), (gv (qP46 x5.toNat) 1), (gv (qP46 x5.toNat) 2)] 46, .sl (gv (qP46 x5.toNat) 0) 3 1 (u9.keys_.map I), .sl (gv (qP46 x5.toNat) 1) 9 1 (u9.texts_.map SR), .sl (gv (qP46 x5.toNat) 2) 42 1 (u9.kids_.map (PR gP46)), ar46 gP46 qP46 A46 (x5.toNat :: x3.toNat :: a0.toNat :: H), .obj (gP46 x3.toNat) [(gv (qP46 x3.toNat) 0), (gv (qP46 x3.toNat) 1), (gv (qP46 x3.toNat) 2)] 46, .sl (gv (qP46 x3.toNat) 0) 3 1 (u6.keys_.map I), .sl (gv (qP46 x3.toNat) 1) 9 1 (u6.texts_.map SR), .sl (gv (qP46 x3.toNat) 2) 42 1 (u6.kids_.map (PR gP46)), .obj (gP46 a0.toNat) [(gv (qP46 a0.toNat) 0), (gv (qP46 a0.toNat) 1), (gv (qP46 a0.toNat) 2)] 46, .sl (gv (qP46 a0.toNat) 0) 3 1 (u1.keys_.map I), .sl (gv (qP46 a0.toNat) 1) 9 1 (u1.texts_.map SR), .sl (gv (qP46 a0.toNat) 2) 42 1 (u1.kids_.map (PR gP46))]) (fun _ hw => hw.arOpen (p := 4) rfl eu9 (nin1 (ck_some c12) eu9 eu6 (nin1 (ck_some c11) eu9 eu1 (ck_some c10)))) ?_
  refine W.drawn2 (k := 22) (stC [[13, 18, 21], [18, 21], [21]] [Cls w F [.obj (gP46 x5.toNat) [(gv (qP46 x5.toNat) 0), (gv (qP46 x5.toNat) 1), (gv (qP46 x5.toNat) 2)] 46, .sl (gv (qP46 x5.toNat) 0) 3 1 (u9.keys_.map I), .sl (gv (qP46 x5.toNat) 1) 9 1 (u9.texts_.map SR), .sl (gv (qP46 x5.toNat) 2) 42 1 (u9.kids_.map (PR gP46)), ar46 gP46 qP46 A46 (x5.toNat :: x3.toNat :: a0.toNat :: H), .obj (gP46 x3.toNat) [(gv (qP46 x3.toNat) 0), (gv (qP46 x3.toNat) 1), (gv (qP46 x3.toNat) 2)] 46, .sl (gv (qP46 x3.toNat) 0) 3 1 (u6.keys_.map I), .sl (gv (qP46 x3.toNat) 1) 9 1 (u6.texts_.map SR), .sl (gv (qP46 x3.toNat) 2) 42 1 (u6.kids_.map (PR gP46)), .obj (gP46 a0.toNat) [(gv (qP46 a0.toNat) 0), (gv (qP46 a0.toNat) 1), (gv (qP46 a0.toNat) 2)] 46, .sl (gv (qP46 a0.toNat) 0) 3 1 (u1.keys_.map I), .sl (gv (qP46 a0.toNat) 1) 9 1 (u1.texts_.map SR), .sl (gv (qP46 a0.toNat) 2) 42 1 (u1.kids_.map (PR gP46))], Cls w F [.obj (gP46 x5.toNat) [(gv (qP46 x5.toNat) 0), (gv (qP46 x5.toNat) 1), (gv (qP46 x5.toNat) 2)] 46, .sl (gv (qP46 x5.toNat) 0) 3 1 (u9.keys_.map I), .sl (gv (qP46 x5.toNat) 1) 9 1 (u9.texts_.map SR), .sl (gv (qP46 x5.toNat) 2) 42 1 (u9.kids_.map (PR gP46)), ar46 gP46 qP46 A46 (x5.toNat :: x3.toNat :: a0.toNat :: H), .obj (gP46 x3.toNat) [(gv (qP46 x3.toNat) 0), (gv (qP46 x3.toNat) 1), (gv (qP46 x3.toNat) 2)] 46, .sl (gv (qP46 x3.toNat) 1) 9 1 (u6.texts_.map SR), .sl (gv (qP46 x3.toNat) 2) 42 1 (u6.kids_.map (PR gP46)), .obj (gP46 a0.toNat) [(gv (qP46 a0.toNat) 0), (gv (qP46 a0.toNat) 1), (gv (qP46 a0.toNat) 2)] 46, .sl (gv (qP46 a0.toNat) 0) 3 1 (u1.keys_.map I), .sl (gv (qP46 a0.toNat) 1) 9 1 (u1.texts_.map SR), .sl (gv (qP46 a0.toNat) 2) 42 1 (u1.kids_.map (PR gP46))], Cls w F [.obj (gP46 x5.toNat) [(gv (qP46 x5.toNat) 0), (gv (qP46 x5.toNat) 1), (gv (qP46 x5.toNat) 2)] 46, .sl (gv (qP46 x5.toNat) 0) 3 1 (u9.keys_.map I), .sl (gv (qP46 x5.toNat) 1) 9 1 (u9.texts_.map SR), .sl (gv (qP46 x5.toNat) 2) 42 1 (u9.kids_.map (PR gP46)), ar46 gP46 qP46 A46 (x5.toNat :: x3.toNat :: a0.toNat :: H), .obj (gP46 x3.toNat) [(gv (qP46 x3.toNat) 0), (gv (qP46 x3.toNat) 1), (gv (qP46 x3.toNat) 2)] 46, .sl (gv (qP46 x3.toNat) 1) 9 1 (u6.texts_.map SR), .sl (gv (qP46 x3.toNat) 2) 42 1 (u6.kids_.map (PR gP46)), .obj (gP46 a0.toNat) [(gv (qP46 a0.toNat) 0), (gv (qP46 a0.toNat) 1), (gv (qP46 a0.toNat) 2)] 46, .sl (gv (qP46 a0.toNat) 0) 3 1 (u1.keys_.map I), .sl (gv (qP46 a0.toNat) 1) 9 1 (u1.texts_.map SR), .sl (gv (qP46 a0.toNat) 2) 42 1 (u1.kids_.map (PR gP46))]] (Cls w F [.obj (gP46 x5.toNat) [(gv (qP46 x5.toNat) 0), (gv (qP46 x5.toNat) 1), (gv (qP46 x5.toNat) 2)] 46, .sl (gv (qP46 x5.toNat) 0) 3 1 (u9.keys_.map I), .sl (gv (qP46 x5.toNat) 1) 9 1 (u9.texts_.map SR), .sl (gv (qP46 x5.toNat) 2) 42 1 (u9.kids_.map (PR gP46)), ar46 gP46 qP46 A46 (x5.toNat :: x3.toNat :: a0.toNat :: H), .sl (gv (qP46 x3.toNat) 1) 9 1 (u6.texts_.map SR), .sl (gv (qP46 x3.toNat) 2) 42 1 (u6.kids_.map (PR gP46)), .obj (gP46 a0.toNat) [(gv (qP46 a0.toNat) 0), (gv (qP46 a0.toNat) 1), (gv (qP46 a0.toNat) 2)] 46, .sl (gv (qP46 a0.toNat) 0) 3 1 (u1.keys_.map I), .sl (gv (qP46 a0.toNat) 1) 9 1 (u1.texts_.map SR), .sl (gv (qP46 a0.toNat) 2) 42 1 (u1.kids_.map (PR gP46))])) rfl mixed (fun _ hw => hw.drew) (Sc.now (by kernel_rfl) (fun _ hw => hw)) ?_
  refine V2.zz [] (Zc.on' (Zc.on' (Zc.on' (Zc.fin (fun _ hw => hw)) (fun _ hw => hw.sel [0, 1, 2, 3, 4, 6, 7, 8, 9, 10, 11] (by decide) rfl)) (fun _ hw => hw.sel [0, 1, 2, 3, 4, 6, 7, 8, 9, 10, 11] (by decide) rfl)) (fun _ hw => hw.sel [0, 1, 2, 3, 4, 7, 8, 9, 10, 11, 12] (by decide) rfl)) (fun hz33 => ?_)
  refine V2.y (i := 0) (Nx2.of [] (by kernel_rfl) rfl hz33) rfl rfl rfl (Y.move rfl) ?_
  refine V2.y (i := 1) (Nx2.of [] (by kernel_rfl) rfl hz33) rfl rfl rfl (Y.move rfl) ?_
  refine V2.apNil (i := 2) (Nx2.of [] (by kernel_rfl) rfl hz33) rfl rfl rfl eu6 ?_
  refine V2.y (i := 3) (Nx2.of [] (by kernel_rfl) rfl hz33) rfl rfl rfl (Y.fieldP fd46_0 rfl) ?_
  refine V2.zz [21] (Zc.on' (Zc.on' (Zc.at1 (fun _ hw => hw)) (fun _ hw => hw)) (fun _ hw => hw.sel [0, 1, 2, 3, 4, 5, 7, 8, 9, 10, 11, 12] (by decide) rfl)) (fun hz34 => ?_)
  refine V2.y (i := 4) (Nx2.of [21] (by kernel_rfl) rfl hz34) rfl rfl rfl (Y.loadP (i := 5) ag25 rfl rfl rfl) ?_
  refine V2.y (i := 5) (Nx2.of [] (by kernel_rfl) rfl hz33) rfl rfl rfl (Y.move rfl) ?_
  refine V2.apNil (i := 6) (Nx2.of [] (by kernel_rfl) rfl hz33) rfl rfl rfl eu1 ?_
  refine V2.y (i := 7) (Nx2.of [] (by kernel_rfl) rfl hz33) rfl rfl rfl (Y.fieldP fd46_0 rfl) ?_
  refine V2.y (i := 8) (Nx2.of [] (by kernel_rfl) rfl hz33) rfl rfl rfl (Y.loadP (i := 7) ag25 rfl rfl rfl) ?_
  refine V2.y (i := 9) (Nx2.of [] (by kernel_rfl) rfl hz33) rfl rfl rfl (Y.move rfl) ?_
  refine V2.m (i := 10) (V' := fun _ => el (gv (qP46 a0.toNat) 0) (a1.toNat * 1)) h (Nx2.of [] (by kernel_rfl) rfl hz33) rfl rfl rfl (Y.indexM (g := I) (l := u1.keys_) Try.underlying25 sz3 rfl rfl (fun w hw => As.at_ (hw.get (i := 8) rfl))) (fun x35 ex35 h => ?_)
  refine V2.y (i := 11) (Nx2.of [] (by kernel_rfl) rfl hz33) rfl rfl rfl (Y.loadE1 (u := .int .i64 x35) ag3 rfl (fun w hw => As.at_ (hw.get (i := 8) rfl)) (idx_map ex35)) ?_
  refine V2.y (i := 14) (Nx2.of [] (by kernel_rfl) rfl hz33) rfl rfl rfl (Y.move rfl) ?_
  refine V2.apNil (i := 15) (Nx2.of [] (by kernel_rfl) rfl hz33) rfl rfl rfl eu9 ?_
  refine V2.y (i := 16) (Nx2.of [] (by kernel_rfl) rfl hz33) rfl rfl rfl (Y.fieldP fd46_0 rfl) ?_
  refine V2.y (i := 17) (Nx2.of [] (by kernel_rfl) rfl hz33) rfl rfl rfl (Y.loadP (i := 0) ag25 rfl rfl rfl) ?_
  refine V2.eff (i := 12) (by kernel_rfl) rfl ?_
  refine L.litOne rfl Try.underlying25 eL3 rfl rfl ?_
  intro b36
  refine L.nil (E.toV2 (stC [[13, 18, 21], [18, 21], [21]] [Cls w F [.sl (sv b36 1) 3 1 (([x35]).map I), .obj (gP46 x5.toNat) [(gv (qP46 x5.toNat) 0), (gv (qP46 x5.toNat) 1), (gv (qP46 x5.toNat) 2)] 46, .sl (gv (qP46 x5.toNat) 0) 3 1 (u9.keys_.map I), .sl (gv (qP46 x5.toNat) 1) 9 1 (u9.texts_.map SR), .sl (gv (qP46 x5.toNat) 2) 42 1 (u9.kids_.map (PR gP46)), ar46 gP46 qP46 A46 (x5.toNat :: x3.toNat :: a0.toNat :: H), .obj (gP46 x3.toNat) [(gv (qP46 x3.toNat) 0), (gv (qP46 x3.toNat) 1), (gv (qP46 x3.toNat) 2)] 46, .sl (gv (qP46 x3.toNat) 0) 3 1 (u6.keys_.map I), .sl (gv (qP46 x3.toNat) 1) 9 1 (u6.texts_.map SR), .sl (gv (qP46 x3.toNat) 2) 42 1 (u6.kids_.map (PR gP46)), .obj (gP46 a0.toNat) [(gv (qP46 a0.toNat) 0), (gv (qP46 a0.toNat) 1), (gv (qP46 a0.toNat) 2)] 46, .sl (gv (qP46 a0.toNat) 0) 3 1 (u1.keys_.map I), .sl (gv (qP46 a0.toNat) 1) 9 1 (u1.texts_.map SR), .sl (gv (qP46 a0.toNat) 2) 42 1 (u1.kids_.map (PR gP46))], Cls w F [.sl (sv b36 1) 3 1 (([x35]).map I), .obj (gP46 x5.toNat) [(gv (qP46 x5.toNat) 0), (gv (qP46 x5.toNat) 1), (gv (qP46 x5.toNat) 2)] 46, .sl (gv (qP46 x5.toNat) 0) 3 1 (u9.keys_.map I), .sl (gv (qP46 x5.toNat) 1) 9 1 (u9.texts_.map SR), .sl (gv (qP46 x5.toNat) 2) 42 1 (u9.kids_.map (PR gP46)), ar46 gP46 qP46 A46 (x5.toNat :: x3.toNat :: a0.toNat :: H), .obj (gP46 x3.toNat) [(gv (qP46 x3.toNat) 0), (gv (qP46 x3.toNat) 1), (gv (qP46 x3.toNat) 2)] 46, .sl (gv (qP46 x3.toNat) 1) 9 1 (u6.texts_.map SR), .sl (gv (qP46 x3.toNat) 2) 42 1 (u6.kids_.map (PR gP46)), .obj (gP46 a0.toNat) [(gv (qP46 a0.toNat) 0), (gv (qP46 a0.toNat) 1), (gv (qP46 a0.toNat) 2)] 46, .sl (gv (qP46 a0.toNat) 0) 3 1 (u1.keys_.map I), .sl (gv (qP46 a0.toNat) 1) 9 1 (u1.texts_.map SR), .sl (gv (qP46 a0.toNat) 2) 42 1 (u1.kids_.map (PR gP46))], Cls w F [.sl (sv b36 1) 3 1 (([x35]).map I), .obj (gP46 x5.toNat) [(gv (qP46 x5.toNat) 0), (gv (qP46 x5.toNat) 1), (gv (qP46 x5.toNat) 2)] 46, .sl (gv (qP46 x5.toNat) 0) 3 1 (u9.keys_.map I), .sl (gv (qP46 x5.toNat) 1) 9 1 (u9.texts_.map SR), .sl (gv (qP46 x5.toNat) 2) 42 1 (u9.kids_.map (PR gP46)), ar46 gP46 qP46 A46 (x5.toNat :: x3.toNat :: a0.toNat :: H), .obj (gP46 x3.toNat) [(gv (qP46 x3.toNat) 0), (gv (qP46 x3.toNat) 1), (gv (qP46 x3.toNat) 2)] 46, .sl (gv (qP46 x3.toNat) 1) 9 1 (u6.texts_.map SR), .sl (gv (qP46 x3.toNat) 2) 42 1 (u6.kids_.map (PR gP46)), .obj (gP46 a0.toNat) [(gv (qP46 a0.toNat) 0), (gv (qP46 a0.toNat) 1), (gv (qP46 a0.toNat) 2)] 46, .sl (gv (qP46 a0.toNat) 0) 3 1 (u1.keys_.map I), .sl (gv (qP46 a0.toNat) 1) 9 1 (u1.texts_.map SR), .sl (gv (qP46 a0.toNat) 2) 42 1 (u1.kids_.map (PR gP46))]] (Cls w F [.sl (sv b36 1) 3 1 (([x35]).map I), .obj (gP46 x5.toNat) [(gv (qP46 x5.toNat) 0), (gv (qP46 x5.toNat) 1), (gv (qP46 x5.toNat) 2)] 46, .sl (gv (qP46 x5.toNat) 0) 3 1 (u9.keys_.map I), .sl (gv (qP46 x5.toNat) 1) 9 1 (u9.texts_.map SR), .sl (gv (qP46 x5.toNat) 2) 42 1 (u9.kids_.map (PR gP46)), ar46 gP46 qP46 A46 (x5.toNat :: x3.toNat :: a0.toNat :: H), .sl (gv (qP46 x3.toNat) 1) 9 1 (u6.texts_.map SR), .sl (gv (qP46 x3.toNat) 2) 42 1 (u6.kids_.map (PR gP46)), .obj (gP46 a0.toNat) [(gv (qP46 a0.toNat) 0), (gv (qP46 a0.toNat) 1), (gv (qP46 a0.toNat) 2)] 46, .sl (gv (qP46 a0.toNat) 0) 3 1 (u1.keys_.map I), .sl (gv (qP46 a0.toNat) 1) 9 1 (u1.texts_.map SR), .sl (gv (qP46 a0.toNat) 2) 42 1 (u1.kids_.map (PR gP46))])) 12 (by kernel_rfl) (Sc.stay (fun _ hw => hw.sel [1, 2, 3, 4, 5, 6, 7, 8, 9, 10, 11, 12, 13] (by decide) rfl) (Sc.stay (fun _ hw => hw.sel [1, 2, 3, 4, 5, 6, 7, 8, 9, 10, 11, 12] (by decide) rfl) (Sc.stay (fun _ hw => hw.sel [1, 2, 3, 4, 5, 6, 7, 8, 9, 10, 11, 12] (by decide) rfl) (Sc.stayD (fun _ hw => hw.sel [1, 2, 3, 4, 5, 6, 7, 8, 9, 10, 11] (by decide) rfl))))) (Sc.now (by kernel_rfl) (fun _ hw => hw)) ?_)
  refine V2.eff (i := 13) (by kernel_rfl) rfl ?_
  refine L.appM (i := 7) (g := I) (l := u6.keys_) (more := [x35]) h rfl Try.underlying25 eL3 rfl rfl rfl (fun w hw => As.at_ (hw.get (i := 0) rfl)) (plain_ints _) rfl ?_
  intro v37 l38 el38 h
  refine L.nil (E.toV2 (stC [[18, 21], [21]] [Cls w F [.sl v37 3 1 (l38.map I), .sl (sv b36 1) 3 1 (([x35]).map I), .obj (gP46 x5.toNat) [(gv (qP46 x5.toNat) 0), (gv (qP46 x5.toNat) 1), (gv (qP46 x5.toNat) 2)] 46, .sl (gv (qP46 x5.toNat) 0) 3 1 (u9.keys_.map I), .sl (gv (qP46 x5.toNat) 1) 9 1 (u9.texts_.map SR), .sl (gv (qP46 x5.toNat) 2) 42 1 (u9.kids_.map (PR gP46)), ar46 gP46 qP46 A46 (x5.toNat :: x3.toNat :: a0.toNat :: H), .obj (gP46 x3.toNat) [(gv (qP46 x3.toNat) 0), (gv (qP46 x3.toNat) 1), (gv (qP46 x3.toNat) 2)] 46, .sl (gv (qP46 x3.toNat) 1) 9 1 (u6.texts_.map SR), .sl (gv (qP46 x3.toNat) 2) 42 1 (u6.kids_.map (PR gP46)), .obj (gP46 a0.toNat) [(gv (qP46 a0.toNat) 0), (gv (qP46 a0.toNat) 1), (gv (qP46 a0.toNat) 2)] 46, .sl (gv (qP46 a0.toNat) 0) 3 1 (u1.keys_.map I), .sl (gv (qP46 a0.toNat) 1) 9 1 (u1.texts_.map SR), .sl (gv (qP46 a0.toNat) 2) 42 1 (u1.kids_.map (PR gP46))], Cls w F [.sl (sv b36 1) 3 1 (([x35]).map I), .obj (gP46 x5.toNat) [(gv (qP46 x5.toNat) 0), (gv (qP46 x5.toNat) 1), (gv (qP46 x5.toNat) 2)] 46, .sl (gv (qP46 x5.toNat) 0) 3 1 (u9.keys_.map I), .sl (gv (qP46 x5.toNat) 1) 9 1 (u9.texts_.map SR), .sl (gv (qP46 x5.toNat) 2) 42 1 (u9.kids_.map (PR gP46)), ar46 gP46 qP46 A46 (x5.toNat :: x3.toNat :: a0.toNat :: H), .obj (gP46 x3.toNat) [(gv (qP46 x3.toNat) 0), (gv (qP46 x3.toNat) 1), (gv (qP46 x3.toNat) 2)] 46, .sl (gv (qP46 x3.toNat) 1) 9 1 (u6.texts_.map SR), .sl (gv (qP46 x3.toNat) 2) 42 1 (u6.kids_.map (PR gP46)), .obj (gP46 a0.toNat) [(gv (qP46 a0.toNat) 0), (gv (qP46 a0.toNat) 1), (gv (qP46 a0.toNat) 2)] 46, .sl (gv (qP46 a0.toNat) 0) 3 1 (u1.keys_.map I), .sl (gv (qP46 a0.toNat) 1) 9 1 (u1.texts_.map SR), .sl (gv (qP46 a0.toNat) 2) 42 1 (u1.kids_.map (PR gP46))]] (Cls w F [.sl (sv b36 1) 3 1 (([x35]).map I), .obj (gP46 x5.toNat) [(gv (qP46 x5.toNat) 0), (gv (qP46 x5.toNat) 1), (gv (qP46 x5.toNat) 2)] 46, .sl (gv (qP46 x5.toNat) 0) 3 1 (u9.keys_.map I), .sl (gv (qP46 x5.toNat) 1) 9 1 (u9.texts_.map SR), .sl (gv (qP46 x5.toNat) 2) 42 1 (u9.kids_.map (PR gP46)), ar46 gP46 qP46 A46 (x5.toNat :: x3.toNat :: a0.toNat :: H), .sl (gv (qP46 x3.toNat) 1) 9 1 (u6.texts_.map SR), .sl (gv (qP46 x3.toNat) 2) 42 1 (u6.kids_.map (PR gP46)), .obj (gP46 a0.toNat) [(gv (qP46 a0.toNat) 0), (gv (qP46 a0.toNat) 1), (gv (qP46 a0.toNat) 2)] 46, .sl (gv (qP46 a0.toNat) 0) 3 1 (u1.keys_.map I), .sl (gv (qP46 a0.toNat) 1) 9 1 (u1.texts_.map SR), .sl (gv (qP46 a0.toNat) 2) 42 1 (u1.kids_.map (PR gP46))])) 13 (by kernel_rfl) (Sc.past rfl (Sc.stay (fun _ hw => hw.sel [1, 2, 3, 4, 5, 6, 7, 8, 9, 10, 11, 12, 13] (by decide) rfl) (Sc.stay (fun _ hw => hw) (Sc.stayD (fun _ hw => hw))))) (Sc.now (by kernel_rfl) (fun _ hw => hw)) ?_)
  refine V2.eff (i := 18) (by kernel_rfl) rfl ?_
  refine L.appM (i := 0) (g := I) (l := l38) (more := u9.keys_) h rfl Try.underlying25 eL3 rfl rfl rfl (fun w hw => As.at_ (hw.get (i := 3) rfl)) (plain_ints _) rfl ?_
  intro v39 l40 el40 h
  refine L.nil (E.toV2 (stC [[21]] [Cls w F [.sl v39 3 1 (l40.map I), .sl (sv b36 1) 3 1 (([x35]).map I), .obj (gP46 x5.toNat) [(gv (qP46 x5.toNat) 0), (gv (qP46 x5.toNat) 1), (gv (qP46 x5.toNat) 2)] 46, .sl (gv (qP46 x5.toNat) 0) 3 1 (u9.keys_.map I), .sl (gv (qP46 x5.toNat) 1) 9 1 (u9.texts_.map SR), .sl (gv (qP46 x5.toNat) 2) 42 1 (u9.kids_.map (PR gP46)), ar46 gP46 qP46 A46 (x5.toNat :: x3.toNat :: a0.toNat :: H), .obj (gP46 x3.toNat) [(gv (qP46 x3.toNat) 0), (gv (qP46 x3.toNat) 1), (gv (qP46 x3.toNat) 2)] 46, .sl (gv (qP46 x3.toNat) 1) 9 1 (u6.texts_.map SR), .sl (gv (qP46 x3.toNat) 2) 42 1 (u6.kids_.map (PR gP46)), .obj (gP46 a0.toNat) [(gv (qP46 a0.toNat) 0), (gv (qP46 a0.toNat) 1), (gv (qP46 a0.toNat) 2)] 46, .sl (gv (qP46 a0.toNat) 0) 3 1 (u1.keys_.map I), .sl (gv (qP46 a0.toNat) 1) 9 1 (u1.texts_.map SR), .sl (gv (qP46 a0.toNat) 2) 42 1 (u1.kids_.map (PR gP46))]] (Cls w F [.sl v39 3 1 (l40.map I), .sl (sv b36 1) 3 1 (([x35]).map I), .obj (gP46 x5.toNat) [(gv (qP46 x5.toNat) 0), (gv (qP46 x5.toNat) 1), (gv (qP46 x5.toNat) 2)] 46, .sl (gv (qP46 x5.toNat) 0) 3 1 (u9.keys_.map I), .sl (gv (qP46 x5.toNat) 1) 9 1 (u9.texts_.map SR), .sl (gv (qP46 x5.toNat) 2) 42 1 (u9.kids_.map (PR gP46)), ar46 gP46 qP46 A46 (x5.toNat :: x3.toNat :: a0.toNat :: H), .sl (gv (qP46 x3.toNat) 1) 9 1 (u6.texts_.map SR), .sl (gv (qP46 x3.toNat) 2) 42 1 (u6.kids_.map (PR gP46)), .obj (gP46 a0.toNat) [(gv (qP46 a0.toNat) 0), (gv (qP46 a0.toNat) 1), (gv (qP46 a0.toNat) 2)] 46, .sl (gv (qP46 a0.toNat) 0) 3 1 (u1.keys_.map I), .sl (gv (qP46 a0.toNat) 1) 9 1 (u1.texts_.map SR), .sl (gv (qP46 a0.toNat) 2) 42 1 (u1.kids_.map (PR gP46))])) 18 (by kernel_rfl) (Sc.past rfl (Sc.stay (fun _ hw => hw.sel [1, 2, 3, 4, 5, 6, 7, 8, 9, 10, 11, 12, 13] (by decide) rfl) (Sc.stayD (fun _ hw => hw.sel [1, 2, 3, 4, 5, 6, 7, 8, 9, 10, 11, 12] (by decide) rfl)))) (Sc.now (by kernel_rfl) (fun _ hw => hw)) ?_)
  refine V2.zz [] (Zc.on' (Zc.fin (fun _ hw => hw)) (fun _ hw => hw.sel [0, 1, 2, 3, 4, 5, 6, 8, 9, 10, 11, 12, 13] (by decide) rfl)) (fun hz41 => ?_)
  refine V2.apNil (i := 19) (Nx2.of [] (by kernel_rfl) rfl hz41) rfl rfl rfl eu6 ?_
  refine V2.y (i := 20) (Nx2.of [] (by kernel_rfl) rfl hz41) rfl rfl rfl (Y.fieldP fd46_0 rfl) ?_
  refine V2.eff (i := 21) (by kernel_rfl) rfl ?_
  refine L.storeV (i := 7) sz25 rfl rfl (fun _ hw => (As.at_ (hw.get (i := 0) rfl)).one) rfl (Nat.le_of_ble_eq_true rfl) ?_
  refine L.nil (E.toV2 (stC [] [] (Cls w F [.sl v39 3 1 (l40.map I), .sl (sv b36 1) 3 1 (([x35]).map I), .obj (gP46 x5.toNat) [(gv (qP46 x5.toNat) 0), (gv (qP46 x5.toNat) 1), (gv (qP46 x5.toNat) 2)] 46, .sl (gv (qP46 x5.toNat) 0) 3 1 (u9.keys_.map I), .sl (gv (qP46 x5.toNat) 1) 9 1 (u9.texts_.map SR), .sl (gv (qP46 x5.toNat) 2) 42 1 (u9.kids_.map (PR gP46)), ar46 gP46 qP46 A46 (x5.toNat :: x3.toNat :: a0.toNat :: H), .sl (gv (qP46 x3.toNat) 1) 9 1 (u6.texts_.map SR), .sl (gv (qP46 x3.toNat) 2) 42 1 (u6.kids_.map (PR gP46)), .obj (gP46 a0.toNat) [(gv (qP46 a0.toNat) 0), (gv (qP46 a0.toNat) 1), (gv (qP46 a0.toNat) 2)] 46, .sl (gv (qP46 a0.toNat) 0) 3 1 (u1.keys_.map I), .sl (gv (qP46 a0.toNat) 1) 9 1 (u1.texts_.map SR), .sl (gv (qP46 a0.toNat) 2) 42 1 (u1.kids_.map (PR gP46))])) 21 (by kernel_rfl) (Sc.past rfl (Sc.stayD (fun _ hw => hw))) (Sc.atD (fun _ hw => hw.sel [0, 1, 2, 3, 4, 5, 6, 8, 9, 10, 11, 12, 13] (by decide) rfl)) ?_)
  refine V2.done (by kernel_rfl) ?_
  refine E.thenN (W.seq (W.drawn2 (k := 22) (stC [[13, 18, 21], [18, 21], [21]] [Cls w F [.sl v39 3 1 (l40.map I), .sl (sv b36 1) 3 1 (([x35]).map I), .obj (gP46 x5.toNat) [(gv (qP46 x5.toNat) 0), (gv (qP46 x5.toNat) 1), (gv (qP46 x5.toNat) 2)] 46, .sl (gv (qP46 x5.toNat) 0) 3 1 (u9.keys_.map I), .sl (gv (qP46 x5.toNat) 1) 9 1 (u9.texts_.map SR), .sl (gv (qP46 x5.toNat) 2) 42 1 (u9.kids_.map (PR gP46)), ar46 gP46 qP46 A46 (x5.toNat :: x3.toNat :: a0.toNat :: H), .obj (gP46 x3.toNat) [v39, (gv (qP46 x3.toNat) 1), (gv (qP46 x3.toNat) 2)] 46, .sl (gv (qP46 x3.toNat) 1) 9 1 (u6.texts_.map SR), .sl (gv (qP46 x3.toNat) 2) 42 1 (u6.kids_.map (PR gP46)), .obj (gP46 a0.toNat) [(gv (qP46 a0.toNat) 0), (gv (qP46 a0.toNat) 1), (gv (qP46 a0.toNat) 2)] 46, .sl (gv (qP46 a0.toNat) 0) 3 1 (u1.keys_.map I), .sl (gv (qP46 a0.toNat) 1) 9 1 (u1.texts_.map SR), .sl (gv (qP46 a0.toNat) 2) 42 1 (u1.kids_.map (PR gP46))], Cls w F [.sl v39 3 1 (l40.map I), .sl (sv b36 1) 3 1 (([x35]).map I), .obj (gP46 x5.toNat) [(gv (qP46 x5.toNat) 0), (gv (qP46 x5.toNat) 1), (gv (qP46 x5.toNat) 2)] 46, .sl (gv (qP46 x5.toNat) 0) 3 1 (u9.keys_.map I), .sl (gv (qP46 x5.toNat) 1) 9 1 (u9.texts_.map SR), .sl (gv (qP46 x5.toNat) 2) 42 1 (u9.kids_.map (PR gP46)), ar46 gP46 qP46 A46 (x5.toNat :: x3.toNat :: a0.toNat :: H), .obj (gP46 x3.toNat) [v39, (gv (qP46 x3.toNat) 1), (gv (qP46 x3.toNat) 2)] 46, .sl (gv (qP46 x3.toNat) 2) 42 1 (u6.kids_.map (PR gP46)), .obj (gP46 a0.toNat) [(gv (qP46 a0.toNat) 0), (gv (qP46 a0.toNat) 1), (gv (qP46 a0.toNat) 2)] 46, .sl (gv (qP46 a0.toNat) 0) 3 1 (u1.keys_.map I), .sl (gv (qP46 a0.toNat) 1) 9 1 (u1.texts_.map SR), .sl (gv (qP46 a0.toNat) 2) 42 1 (u1.kids_.map (PR gP46))], Cls w F [.sl v39 3 1 (l40.map I), .sl (sv b36 1) 3 1 (([x35]).map I), .obj (gP46 x5.toNat) [(gv (qP46 x5.toNat) 0), (gv (qP46 x5.toNat) 1), (gv (qP46 x5.toNat) 2)] 46, .sl (gv (qP46 x5.toNat) 0) 3 1 (u9.keys_.map I), .sl (gv (qP46 x5.toNat) 1) 9 1 (u9.texts_.map SR), .sl (gv (qP46 x5.toNat) 2) 42 1 (u9.kids_.map (PR gP46)), ar46 gP46 qP46 A46 (x5.toNat :: x3.toNat :: a0.toNat :: H), .obj (gP46 x3.toNat) [v39, (gv (qP46 x3.toNat) 1), (gv (qP46 x3.toNat) 2)] 46, .sl (gv (qP46 x3.toNat) 2) 42 1 (u6.kids_.map (PR gP46)), .obj (gP46 a0.toNat) [(gv (qP46 a0.toNat) 0), (gv (qP46 a0.toNat) 1), (gv (qP46 a0.toNat) 2)] 46, .sl (gv (qP46 a0.toNat) 0) 3 1 (u1.keys_.map I), .sl (gv (qP46 a0.toNat) 1) 9 1 (u1.texts_.map SR), .sl (gv (qP46 a0.toNat) 2) 42 1 (u1.kids_.map (PR gP46))]] (Cls w F [.sl v39 3 1 (l40.map I), .sl (sv b36 1) 3 1 (([x35]).map I), .obj (gP46 x5.toNat) [(gv (qP46 x5.toNat) 0), (gv (qP46 x5.toNat) 1), (gv (qP46 x5.toNat) 2)] 46, .sl (gv (qP46 x5.toNat) 0) 3 1 (u9.keys_.map I), .sl (gv (qP46 x5.toNat) 1) 9 1 (u9.texts_.map SR), .sl (gv (qP46 x5.toNat) 2) 42 1 (u9.kids_.map (PR gP46)), ar46 gP46 qP46 A46 (x5.toNat :: x3.toNat :: a0.toNat :: H), .sl (gv (qP46 x3.toNat) 2) 42 1 (u6.kids_.map (PR gP46)), .obj (gP46 a0.toNat) [(gv (qP46 a0.toNat) 0), (gv (qP46 a0.toNat) 1), (gv (qP46 a0.toNat) 2)] 46, .sl (gv (qP46 a0.toNat) 0) 3 1 (u1.keys_.map I), .sl (gv (qP46 a0.toNat) 1) 9 1 (u1.texts_.map SR), .sl (gv (qP46 a0.toNat) 2) 42 1 (u1.kids_.map (PR gP46))])) rfl mixed (fun _ hw => hw.drew) (Sc.now (by kernel_rfl) (fun _ hw => hw)) ?_))
  refine V2.zz [] (Zc.on' (Zc.on' (Zc.on' (Zc.fin (fun _ hw => hw)) (fun _ hw => hw.sel [0, 1, 2, 3, 4, 5, 6, 8, 9, 10, 11, 12] (by decide) rfl)) (fun _ hw => hw.sel [0, 1, 2, 3, 4, 5, 6, 8, 9, 10, 11, 12] (by decide) rfl)) (fun _ hw => hw.sel [0, 1, 2, 3, 4, 5, 6, 9, 10, 11, 12, 13] (by decide) rfl)) (fun hz62 => ?_)
  refine V2.y (i := 0) (Nx2.of [] (by kernel_rfl) rfl hz62) rfl rfl rfl (Y.move rfl) ?_
  refine V2.y (i := 1) (Nx2.of [] (by kernel_rfl) rfl hz62) rfl rfl rfl (Y.move rfl) ?_
  refine V2.apNil (i := 2) (Nx2.of [] (by kernel_rfl) rfl hz62) rfl rfl rfl eu6 ?_
  refine V2.y (i := 3) (Nx2.of [] (by kernel_rfl) rfl hz62) rfl rfl rfl (Y.fieldP fd46_1 rfl) ?_
  refine V2.zz [21] (Zc.on' (Zc.on' (Zc.at1 (fun _ hw => hw)) (fun _ hw => hw)) (fun _ hw => hw.sel [0, 1, 2, 3, 4, 5, 6, 7, 9, 10, 11, 12, 13] (by decide) rfl)) (fun hz63 => ?_)
  refine V2.y (i := 4) (Nx2.of [21] (by kernel_rfl) rfl hz63) rfl rfl rfl (Y.loadP (i := 7) ag43 rfl rfl rfl) ?_
  refine V2.y (i := 5) (Nx2.of [] (by kernel_rfl) rfl hz62) rfl rfl rfl (Y.move rfl) ?_
  refine V2.apNil (i := 6) (Nx2.of [] (by kernel_rfl) rfl hz62) rfl rfl rfl eu1 ?_
  refine V2.y (i := 7) (Nx2.of [] (by kernel_rfl) rfl hz62) rfl rfl rfl (Y.fieldP fd46_1 rfl) ?_
  refine V2.y (i := 8) (Nx2.of [] (by kernel_rfl) rfl hz62) rfl rfl rfl (Y.loadP (i := 8) ag43 rfl rfl rfl) ?_
  refine V2.y (i := 9) (Nx2.of [] (by kernel_rfl) rfl hz62) rfl rfl rfl (Y.move rfl) ?_
  refine V2.m (i := 10) (V' := fun _ => el (gv (qP46 a0.toNat) 1) (a1.toNat * 1)) h (Nx2.of [] (by kernel_rfl) rfl hz62) rfl rfl rfl (Y.indexM (g := SR) (l := u1.texts_) Try.underlying43 sz9 rfl rfl (fun w hw => As.at_ (hw.get (i := 10) rfl))) (fun x64 ex64 h => ?_)
  refine V2.y (i := 11) (Nx2.of [] (by kernel_rfl) rfl hz62) rfl rfl rfl (Y.loadE1 (u := st x64) ag9 rfl (fun w hw => As.at_ (hw.get (i := 10) rfl)) (idx_map ex64)) ?_
  refine V2.y (i := 14) (Nx2.of [] (by kernel_rfl) rfl hz62) rfl rfl rfl (Y.move rfl) ?_
  refine V2.apNil (i := 15) (Nx2.of [] (by kernel_rfl) rfl hz62) rfl rfl rfl eu9 ?_
  refine V2.y (i := 16) (Nx2.of [] (by kernel_rfl) rfl hz62) rfl rfl rfl (Y.fieldP fd46_1 rfl) ?_
  refine V2.y (i := 17) (Nx2.of [] (by kernel_rfl) rfl hz62) rfl rfl rfl (Y.loadP (i := 2) ag43 rfl rfl rfl) ?_
  refine V2.eff (i := 12) (by kernel_rfl) rfl ?_
  refine L.litOne rfl Try.underlying43 eL9 rfl rfl ?_
  intro b65
  refine L.nil (E.toV2 (stC [[13, 18, 21], [18, 21], [21]] [Cls w F [.sl (sv b65 1) 9 1 (([x64]).map SR), .sl v39 3 1 (l40.map I), .sl (sv b36 1) 3 1 (([x35]).map I), .obj (gP46 x5.toNat) [(gv (qP46 x5.toNat) 0), (gv (qP46 x5.toNat) 1), (gv (qP46 x5.toNat) 2)] 46, .sl (gv (qP46 x5.toNat) 0) 3 1 (u9.keys_.map I), .sl (gv (qP46 x5.toNat) 1) 9 1 (u9.texts_.map SR), .sl (gv (qP46 x5.toNat) 2) 42 1 (u9.kids_.map (PR gP46)), ar46 gP46 qP46 A46 (x5.toNat :: x3.toNat :: a0.toNat :: H), .obj (gP46 x3.toNat) [v39, (gv (qP46 x3.toNat) 1), (gv (qP46 x3.toNat) 2)] 46, .sl (gv (qP46 x3.toNat) 1) 9 1 (u6.texts_.map SR), .sl (gv (qP46 x3.toNat) 2) 42 1 (u6.kids_.map (PR gP46)), .obj (gP46 a0.toNat) [(gv (qP46 a0.toNat) 0), (gv (qP46 a0.toNat) 1), (gv (qP46 a0.toNat) 2)] 46, .sl (gv (qP46 a0.toNat) 0) 3 1 (u1.keys_.map I), .sl (gv (qP46 a0.toNat) 1) 9 1 (u1.texts_.map SR), .sl (gv (qP46 a0.toNat) 2) 42 1 (u1.kids_.map (PR gP46))], Cls w F [.sl (sv b65 1) 9 1 (([x64]).map SR), .sl v39 3 1 (l40.map I), .sl (sv b36 1) 3 1 (([x35]).map I), .obj (gP46 x5.toNat) [(gv (qP46 x5.toNat) 0), (gv (qP46 x5.toNat) 1), (gv (qP46 x5.toNat) 2)] 46, .sl (gv (qP46 x5.toNat) 0) 3 1 (u9.keys_.map I), .sl (gv (qP46 x5.toNat) 1) 9 1 (u9.texts_.map SR), .sl (gv (qP46 x5.toNat) 2) 42 1 (u9.kids_.map (PR gP46)), ar46 gP46 qP46 A46 (x5.toNat :: x3.toNat :: a0.toNat :: H), .obj (gP46 x3.toNat) [v39, (gv (qP46 x3.toNat) 1), (gv (qP46 x3.toNat) 2)] 46, .sl (gv (qP46 x3.toNat) 2) 42 1 (u6.kids_.map (PR gP46)), .obj (gP46 a0.toNat) [(gv (qP46 a0.toNat) 0), (gv (qP46 a0.toNat) 1), (gv (qP46 a0.toNat) 2)] 46, .sl (gv (qP46 a0.toNat) 0) 3 1 (u1.keys_.map I), .sl (gv (qP46 a0.toNat) 1) 9 1 (u1.texts_.map SR), .sl (gv (qP46 a0.toNat) 2) 42 1 (u1.kids_.map (PR gP46))], Cls w F [.sl (sv b65 1) 9 1 (([x64]).map SR), .sl v39 3 1 (l40.map I), .sl (sv b36 1) 3 1 (([x35]).map I), .obj (gP46 x5.toNat) [(gv (qP46 x5.toNat) 0), (gv (qP46 x5.toNat) 1), (gv (qP46 x5.toNat) 2)] 46, .sl (gv (qP46 x5.toNat) 0) 3 1 (u9.keys_.map I), .sl (gv (qP46 x5.toNat) 1) 9 1 (u9.texts_.map SR), .sl (gv (qP46 x5.toNat) 2) 42 1 (u9.kids_.map (PR gP46)), ar46 gP46 qP46 A46 (x5.toNat :: x3.toNat :: a0.toNat :: H), .obj (gP46 x3.toNat) [v39, (gv (qP46 x3.toNat) 1), (gv (qP46 x3.toNat) 2)] 46, .sl (gv (qP46 x3.toNat) 2) 42 1 (u6.kids_.map (PR gP46)), .obj (gP46 a0.toNat) [(gv (qP46 a0.toNat) 0), (gv (qP46 a0.toNat) 1), (gv (qP46 a0.toNat) 2)] 46, .sl (gv (qP46 a0.toNat) 0) 3 1 (u1.keys_.map I), .sl (gv (qP46 a0.toNat) 1) 9 1 (u1.texts_.map SR), .sl (gv (qP46 a0.toNat) 2) 42 1 (u1.kids_.map (PR gP46))]] (Cls w F [.sl (sv b65 1) 9 1 (([x64]).map SR), .sl v39 3 1 (l40.map I), .sl (sv b36 1) 3 1 (([x35]).map I), .obj (gP46 x5.toNat) [(gv (qP46 x5.toNat) 0), (gv (qP46 x5.toNat) 1), (gv (qP46 x5.toNat) 2)] 46, .sl (gv (qP46 x5.toNat) 0) 3 1 (u9.keys_.map I), .sl (gv (qP46 x5.toNat) 1) 9 1 (u9.texts_.map SR), .sl (gv (qP46 x5.toNat) 2) 42 1 (u9.kids_.map (PR gP46)), ar46 gP46 qP46 A46 (x5.toNat :: x3.toNat :: a0.toNat :: H), .sl (gv (qP46 x3.toNat) 2) 42 1 (u6.kids_.map (PR gP46)), .obj (gP46 a0.toNat) [(gv (qP46 a0.toNat) 0), (gv (qP46 a0.toNat) 1), (gv (qP46 a0.toNat) 2)] 46, .sl (gv (qP46 a0.toNat) 0) 3 1 (u1.keys_.map I), .sl (gv (qP46 a0.toNat) 1) 9 1 (u1.texts_.map SR), .sl (gv (qP46 a0.toNat) 2) 42 1 (u1.kids_.map (PR gP46))])) 12 (by kernel_rfl) (Sc.stay (fun _ hw => hw.sel [1, 2, 3, 4, 5, 6, 7, 8, 9, 10, 11, 12, 13, 14] (by decide) rfl) (Sc.stay (fun _ hw => hw.sel [1, 2, 3, 4, 5, 6, 7, 8, 9, 10, 11, 12, 13] (by decide) rfl) (Sc.stay (fun _ hw => hw.sel [1, 2, 3, 4, 5, 6, 7, 8, 9, 10, 11, 12, 13] (by decide) rfl) (Sc.stayD (fun _ hw => hw.sel [1, 2, 3, 4, 5, 6, 7, 8, 9, 10, 11, 12] (by decide) rfl))))) (Sc.now (by kernel_rfl) (fun _ hw => hw)) ?_)
  refine V2.eff (i := 13) (by kernel_rfl) rfl ?_
  refine L.appM (i := 9) (g := SR) (l := u6.texts_) (more := [x64]) h rfl Try.underlying43 eL9 rfl rfl rfl (fun w hw => As.at_ (hw.get (i := 0) rfl)) (plain_SR _) rfl ?_
  intro v66 l67 el67 h
  refine L.nil (E.toV2 (stC [[18, 21], [21]] [Cls w F [.sl v66 9 1 (l67.map SR), .sl (sv b65 1) 9 1 (([x64]).map SR), .sl v39 3 1 (l40.map I), .sl (sv b36 1) 3 1 (([x35]).map I), .obj (gP46 x5.toNat) [(gv (qP46 x5.toNat) 0), (gv (qP46 x5.toNat) 1), (gv (qP46 x5.toNat) 2)] 46, .sl (gv (qP46 x5.toNat) 0) 3 1 (u9.keys_.map I), .sl (gv (qP46 x5.toNat) 1) 9 1 (u9.texts_.map SR), .sl (gv (qP46 x5.toNat) 2) 42 1 (u9.kids_.map (PR gP46)), ar46 gP46 qP46 A46 (x5.toNat :: x3.toNat :: a0.toNat :: H), .obj (gP46 x3.toNat) [v39, (gv (qP46 x3.toNat) 1), (gv (qP46 x3.toNat) 2)] 46, .sl (gv (qP46 x3.toNat) 2) 42 1 (u6.kids_.map (PR gP46)), .obj (gP46 a0.toNat) [(gv (qP46 a0.toNat) 0), (gv (qP46 a0.toNat) 1), (gv (qP46 a0.toNat) 2)] 46, .sl (gv (qP46 a0.toNat) 0) 3 1 (u1.keys_.map I), .sl (gv (qP46 a0.toNat) 1) 9 1 (u1.texts_.map SR), .sl (gv (qP46 a0.toNat) 2) 42 1 (u1.kids_.map (PR gP46))], Cls w F [.sl (sv b65 1) 9 1 (([x64]).map SR), .sl v39 3 1 (l40.map I), .sl (sv b36 1) 3 1 (([x35]).map I), .obj (gP46 x5.toNat) [(gv (qP46 x5.toNat) 0), (gv (qP46 x5.toNat) 1), (gv (qP46 x5.toNat) 2)] 46, .sl (gv (qP46 x5.toNat) 0) 3 1 (u9.keys_.map I), .sl (gv (qP46 x5.toNat) 1) 9 1 (u9.texts_.map SR), .sl (gv (qP46 x5.toNat) 2) 42 1 (u9.kids_.map (PR gP46)), ar46 gP46 qP46 A46 (x5.toNat :: x3.toNat :: a0.toNat :: H), .obj (gP46 x3.toNat) [v39, (gv (qP46 x3.toNat) 1), (gv (qP46 x3.toNat) 2)] 46, .sl (gv (qP46 x3.toNat) 2) 42 1 (u6.kids_.map (PR gP46)), .obj (gP46 a0.toNat) [(gv (qP46 a0.toNat) 0), (gv (qP46 a0.toNat) 1), (gv (qP46 a0.toNat) 2)] 46, .sl (gv (qP46 a0.toNat) 0) 3 1 (u1.keys_.map I), .sl (gv (qP46 a0.toNat) 1) 9 1 (u1.texts_.map SR), .sl (gv (qP46 a0.toNat) 2) 42 1 (u1.kids_.map (PR gP46))]] (Cls w F [.sl (sv b65 1) 9 1 (([x64]).map SR), .sl v39 3 1 (l40.map I), .sl (sv b36 1) 3 1 (([x35]).map I), .obj (gP46 x5.toNat) [(gv (qP46 x5.toNat) 0), (gv (qP46 x5.toNat) 1), (gv (qP46 x5.toNat) 2)] 46, .sl (gv (qP46 x5.toNat) 0) 3 1 (u9.keys_.map I), .sl (gv (qP46 x5.toNat) 1) 9 1 (u9.texts_.map SR), .sl (gv (qP46 x5.toNat) 2) 42 1 (u9.kids_.map (PR gP46)), ar46 gP46 qP46 A46 (x5.toNat :: x3.toNat :: a0.toNat :: H), .sl (gv (qP46 x3.toNat) 2) 42 1 (u6.kids_.map (PR gP46)), .obj (gP46 a0.toNat) [(gv (qP46 a0.toNat) 0), (gv (qP46 a0.toNat) 1), (gv (qP46 a0.toNat) 2)] 46, .sl (gv (qP46 a0.toNat) 0) 3 1 (u1.keys_.map I), .sl (gv (qP46 a0.toNat) 1) 9 1 (u1.texts_.map SR), .sl (gv (qP46 a0.toNat) 2) 42 1 (u1.kids_.map (PR gP46))])) 13 (by kernel_rfl) (Sc.past rfl (Sc.stay (fun _ hw => hw.sel [1, 2, 3, 4, 5, 6, 7, 8, 9, 10, 11, 12, 13, 14] (by decide) rfl) (Sc.stay (fun _ hw => hw) (Sc.stayD (fun _ hw => hw))))) (Sc.now (by kernel_rfl) (fun _ hw => hw)) ?_)
  refine V2.eff (i := 18) (by kernel_rfl) rfl ?_
  refine L.appM (i := 0) (g := SR) (l := l67) (more := u9.texts_) h rfl Try.underlying43 eL9 rfl rfl rfl (fun w hw => As.at_ (hw.get (i := 6) rfl)) (plain_SR _) rfl ?_
  intro v68 l69 el69 h
  refine L.nil (E.toV2 (stC [[21]] [Cls w F [.sl v68 9 1 (l69.map SR), .sl (sv b65 1) 9 1 (([x64]).map SR), .sl v39 3 1 (l40.map I), .sl (sv b36 1) 3 1 (([x35]).map I), .obj (gP46 x5.toNat) [(gv (qP46 x5.toNat) 0), (gv (qP46 x5.toNat) 1), (gv (qP46 x5.toNat) 2)] 46, .sl (gv (qP46 x5.toNat) 0) 3 1 (u9.keys_.map I), .sl (gv (qP46 x5.toNat) 1) 9 1 (u9.texts_.map SR), .sl (gv (qP46 x5.toNat) 2) 42 1 (u9.kids_.map (PR gP46)), ar46 gP46 qP46 A46 (x5.toNat :: x3.toNat :: a0.toNat :: H), .obj (gP46 x3.toNat) [v39, (gv (qP46 x3.toNat) 1), (gv (qP46 x3.toNat) 2)] 46, .sl (gv (qP46 x3.toNat) 2) 42 1 (u6.kids_.map (PR gP46)), .obj (gP46 a0.toNat) [(gv (qP46 a0.toNat) 0), (gv (qP46 a0.toNat) 1), (gv (qP46 a0.toNat) 2)] 46, .sl (gv (qP46 a0.toNat) 0) 3 1 (u1.keys_.map I), .sl (gv (qP46 a0.toNat) 1) 9 1 (u1.texts_.map SR), .sl (gv (qP46 a0.toNat) 2) 42 1 (u1.kids_.map (PR gP46))]] (Cls w F [.sl v68 9 1 (l69.map SR), .sl (sv b65 1) 9 1 (([x64]).map SR), .sl v39 3 1 (l40.map I), .sl (sv b36 1) 3 1 (([x35]).map I), .obj (gP46 x5.toNat) [(gv (qP46 x5.toNat) 0), (gv (qP46 x5.toNat) 1), (gv (qP46 x5.toNat) 2)] 46, .sl (gv (qP46 x5.toNat) 0) 3 1 (u9.keys_.map I), .sl (gv (qP46 x5.toNat) 1) 9 1 (u9.texts_.map SR), .sl (gv (qP46 x5.toNat) 2) 42 1 (u9.kids_.map (PR gP46)), ar46 gP46 qP46 A46 (x5.toNat :: x3.toNat :: a0.toNat :: H), .sl (gv (qP46 x3.toNat) 2) 42 1 (u6.kids_.map (PR gP46)), .obj (gP46 a0.toNat) [(gv (qP46 a0.toNat) 0), (gv (qP46 a0.toNat) 1), (gv (qP46 a0.toNat) 2)] 46, .sl (gv (qP46 a0.toNat) 0) 3 1 (u1.keys_.map I), .sl (gv (qP46 a0.toNat) 1) 9 1 (u1.texts_.map SR), .sl (gv (qP46 a0.toNat) 2) 42 1 (u1.kids_.map (PR gP46))])) 18 (by kernel_rfl) (Sc.past rfl (Sc.stay (fun _ hw => hw.sel [1, 2, 3, 4, 5, 6, 7, 8, 9, 10, 11, 12, 13, 14] (by decide) rfl) (Sc.stayD (fun _ hw => hw.sel [1, 2, 3, 4, 5, 6, 7, 8, 9, 10, 11, 12, 13] (by decide) rfl)))) (Sc.now (by kernel_rfl) (fun _ hw => hw)) ?_)
  refine V2.zz [] (Zc.on' (Zc.fin (fun _ hw => hw)) (fun _ hw => hw.sel [0, 1, 2, 3, 4, 5, 6, 7, 8, 10, 11, 12, 13, 14] (by decide) rfl)) (fun hz70 => ?_)
  refine V2.apNil (i := 19) (Nx2.of [] (by kernel_rfl) rfl hz70) rfl rfl rfl eu6 ?_
  refine V2.y (i := 20) (Nx2.of [] (by kernel_rfl) rfl hz70) rfl rfl rfl (Y.fieldP fd46_1 rfl) ?_
  refine V2.eff (i := 21) (by kernel_rfl) rfl ?_
  refine L.storeV (i := 9) sz43 rfl rfl (fun _ hw => (As.at_ (hw.get (i := 0) rfl)).one) rfl (Nat.le_of_ble_eq_true rfl) ?_
  refine L.nil (E.toV2 (stC [] [] (Cls w F [.sl v68 9 1 (l69.map SR), .sl (sv b65 1) 9 1 (([x64]).map SR), .sl v39 3 1 (l40.map I), .sl (sv b36 1) 3 1 (([x35]).map I), .obj (gP46 x5.toNat) [(gv (qP46 x5.toNat) 0), (gv (qP46 x5.toNat) 1), (gv (qP46 x5.toNat) 2)] 46, .sl (gv (qP46 x5.toNat) 0) 3 1 (u9.keys_.map I), .sl (gv (qP46 x5.toNat) 1) 9 1 (u9.texts_.map SR), .sl (gv (qP46 x5.toNat) 2) 42 1 (u9.kids_.map (PR gP46)), ar46 gP46 qP46 A46 (x5.toNat :: x3.toNat :: a0.toNat :: H), .sl (gv (qP46 x3.toNat) 2) 42 1 (u6.kids_.map (PR gP46)), .obj (gP46 a0.toNat) [(gv (qP46 a0.toNat) 0), (gv (qP46 a0.toNat) 1), (gv (qP46 a0.toNat) 2)] 46, .sl (gv (qP46 a0.toNat) 0) 3 1 (u1.keys_.map I), .sl (gv (qP46 a0.toNat) 1) 9 1 (u1.texts_.map SR), .sl (gv (qP46 a0.toNat) 2) 42 1 (u1.kids_.map (PR gP46))])) 21 (by kernel_rfl) (Sc.past rfl (Sc.stayD (fun _ hw => hw))) (Sc.atD (fun _ hw => hw.sel [0, 1, 2, 3, 4, 5, 6, 7, 8, 10, 11, 12, 13, 14] (by decide) rfl)) ?_)
  refine V2.done (by kernel_rfl) ?_
  refine E.thenN (W.seq (W.drawn2 (k := 13) (stC [[9, 12], [12]] [Cls w F [.sl v68 9 1 (l69.map SR), .sl (sv b65 1) 9 1 (([x64]).map SR), .sl v39 3 1 (l40.map I), .sl (sv b36 1) 3 1 (([x35]).map I), .obj (gP46 x5.toNat) [(gv (qP46 x5.toNat) 0), (gv (qP46 x5.toNat) 1), (gv (qP46 x5.toNat) 2)] 46, .sl (gv (qP46 x5.toNat) 0) 3 1 (u9.keys_.map I), .sl (gv (qP46 x5.toNat) 1) 9 1 (u9.texts_.map SR), .sl (gv (qP46 x5.toNat) 2) 42 1 (u9.kids_.map (PR gP46)), ar46 gP46 qP46 A46 (x5.toNat :: x3.toNat :: a0.toNat :: H), .obj (gP46 x3.toNat) [v39, v68, (gv (qP46 x3.toNat) 2)] 46, .sl (gv (qP46 x3.toNat) 2) 42 1 (u6.kids_.map (PR gP46)), .obj (gP46 a0.toNat) [(gv (qP46 a0.toNat) 0), (gv (qP46 a0.toNat) 1), (gv (qP46 a0.toNat) 2)] 46, .sl (gv (qP46 a0.toNat) 0) 3 1 (u1.keys_.map I), .sl (gv (qP46 a0.toNat) 1) 9 1 (u1.texts_.map SR), .sl (gv (qP46 a0.toNat) 2) 42 1 (u1.kids_.map (PR gP46))], Cls w F [.sl v68 9 1 (l69.map SR), .sl (sv b65 1) 9 1 (([x64]).map SR), .sl v39 3 1 (l40.map I), .sl (sv b36 1) 3 1 (([x35]).map I), .obj (gP46 x5.toNat) [(gv (qP46 x5.toNat) 0), (gv (qP46 x5.toNat) 1), (gv (qP46 x5.toNat) 2)] 46, .sl (gv (qP46 x5.toNat) 0) 3 1 (u9.keys_.map I), .sl (gv (qP46 x5.toNat) 1) 9 1 (u9.texts_.map SR), .sl (gv (qP46 x5.toNat) 2) 42 1 (u9.kids_.map (PR gP46)), ar46 gP46 qP46 A46 (x5.toNat :: x3.toNat :: a0.toNat :: H), .obj (gP46 x3.toNat) [v39, v68, (gv (qP46 x3.toNat) 2)] 46, .obj (gP46 a0.toNat) [(gv (qP46 a0.toNat) 0), (gv (qP46 a0.toNat) 1), (gv (qP46 a0.toNat) 2)] 46, .sl (gv (qP46 a0.toNat) 0) 3 1 (u1.keys_.map I), .sl (gv (qP46 a0.toNat) 1) 9 1 (u1.texts_.map SR), .sl (gv (qP46 a0.toNat) 2) 42 1 (u1.kids_.map (PR gP46))]] (Cls w F [.sl v68 9 1 (l69.map SR), .sl (sv b65 1) 9 1 (([x64]).map SR), .sl v39 3 1 (l40.map I), .sl (sv b36 1) 3 1 (([x35]).map I), .obj (gP46 x5.toNat) [(gv (qP46 x5.toNat) 0), (gv (qP46 x5.toNat) 1), (gv (qP46 x5.toNat) 2)] 46, .sl (gv (qP46 x5.toNat) 0) 3 1 (u9.keys_.map I), .sl (gv (qP46 x5.toNat) 1) 9 1 (u9.texts_.map SR), .sl (gv (qP46 x5.toNat) 2) 42 1 (u9.kids_.map (PR gP46)), ar46 gP46 qP46 A46 (x5.toNat :: x3.toNat :: a0.toNat :: H), .obj (gP46 a0.toNat) [(gv (qP46 a0.toNat) 0), (gv (qP46 a0.toNat) 1), (gv (qP46 a0.toNat) 2)] 46, .sl (gv (qP46 a0.toNat) 0) 3 1 (u1.keys_.map I), .sl (gv (qP46 a0.toNat) 1) 9 1 (u1.texts_.map SR), .sl (gv (qP46 a0.toNat) 2) 42 1 (u1.kids_.map (PR gP46))])) rfl mixed (fun _ hw => hw.drew) (Sc.now (by kernel_rfl) (fun _ hw => hw)) ?_))
  refine V2.zz [] (Zc.on' (Zc.on' (Zc.fin (fun _ hw => hw)) (fun _ hw => hw.sel [0, 1, 2, 3, 4, 5, 6, 7, 8, 10, 11, 12, 13] (by decide) rfl)) (fun _ hw => hw.sel [0, 1, 2, 3, 4, 5, 6, 7, 8, 11, 12, 13, 14] (by decide) rfl)) (fun hz78 => ?_)
  refine V2.y (i := 0) (Nx2.of [] (by kernel_rfl) rfl hz78) rfl rfl rfl (Y.move rfl) ?_
  refine V2.y (i := 1) (Nx2.of [] (by kernel_rfl) rfl hz78) rfl rfl rfl (Y.move rfl) ?_
  refine V2.apNil (i := 2) (Nx2.of [] (by kernel_rfl) rfl hz78) rfl rfl rfl eu6 ?_
  refine V2.y (i := 3) (Nx2.of [] (by kernel_rfl) rfl hz78) rfl rfl rfl (Y.fieldP fd46_2 rfl) ?_
  refine V2.zz [12] (Zc.on' (Zc.at1 (fun _ hw => hw)) (fun _ hw => hw.sel [0, 1, 2, 3, 4, 5, 6, 7, 8, 9, 11, 12, 13, 14] (by decide) rfl)) (fun hz79 => ?_)
  refine V2.y (i := 4) (Nx2.of [12] (by kernel_rfl) rfl hz79) rfl rfl rfl (Y.loadP (i := 9) ag44 rfl rfl rfl) ?_
  refine V2.y (i := 5) (Nx2.of [] (by kernel_rfl) rfl hz78) rfl rfl rfl (Y.move rfl) ?_
  refine V2.apNil (i := 6) (Nx2.of [] (by kernel_rfl) rfl hz78) rfl rfl rfl eu9 ?_
  refine V2.y (i := 7) (Nx2.of [] (by kernel_rfl) rfl hz78) rfl rfl rfl (Y.fieldP fd46_2 rfl) ?_
  refine V2.y (i := 8) (Nx2.of [] (by kernel_rfl) rfl hz78) rfl rfl rfl (Y.loadP (i := 4) ag44 rfl rfl rfl) ?_
  refine V2.eff (i := 9) (by kernel_rfl) rfl ?_
  refine L.appM (i := 10) (g := (PR gP46)) (l := u6.kids_) (more := u9.kids_) h rfl Try.underlying44 eL42 rfl rfl rfl (fun w hw => As.at_ (hw.get (i := 7) rfl)) (plain_P _) rfl ?_
  intro v80 l81 el81 h
  refine L.nil (E.toV2 (stC [[12]] [Cls w F [.sl v80 42 1 (l81.map (PR gP46)), .sl v68 9 1 (l69.map SR), .sl (sv b65 1) 9 1 (([x64]).map SR), .sl v39 3 1 (l40.map I), .sl (sv b36 1) 3 1 (([x35]).map I), .obj (gP46 x5.toNat) [(gv (qP46 x5.toNat) 0), (gv (qP46 x5.toNat) 1), (gv (qP46 x5.toNat) 2)] 46, .sl (gv (qP46 x5.toNat) 0) 3 1 (u9.keys_.map I), .sl (gv (qP46 x5.toNat) 1) 9 1 (u9.texts_.map SR), .sl (gv (qP46 x5.toNat) 2) 42 1 (u9.kids_.map (PR gP46)), ar46 gP46 qP46 A46 (x5.toNat :: x3.toNat :: a0.toNat :: H), .obj (gP46 x3.toNat) [v39, v68, (gv (qP46 x3.toNat) 2)] 46, .obj (gP46 a0.toNat) [(gv (qP46 a0.toNat) 0), (gv (qP46 a0.toNat) 1), (gv (qP46 a0.toNat) 2)] 46, .sl (gv (qP46 a0.toNat) 0) 3 1 (u1.keys_.map I), .sl (gv (qP46 a0.toNat) 1) 9 1 (u1.texts_.map SR), .sl (gv (qP46 a0.toNat) 2) 42 1 (u1.kids_.map (PR gP46))]] (Cls w F [.sl v80 42 1 (l81.map (PR gP46)), .sl v68 9 1 (l69.map SR), .sl (sv b65 1) 9 1 (([x64]).map SR), .sl v39 3 1 (l40.map I), .sl (sv b36 1) 3 1 (([x35]).map I), .obj (gP46 x5.toNat) [(gv (qP46 x5.toNat) 0), (gv (qP46 x5.toNat) 1), (gv (qP46 x5.toNat) 2)] 46, .sl (gv (qP46 x5.toNat) 0) 3 1 (u9.keys_.map I), .sl (gv (qP46 x5.toNat) 1) 9 1 (u9.texts_.map SR), .sl (gv (qP46 x5.toNat) 2) 42 1 (u9.kids_.map (PR gP46)), ar46 gP46 qP46 A46 (x5.toNat :: x3.toNat :: a0.toNat :: H), .obj (gP46 a0.toNat) [(gv (qP46 a0.toNat) 0), (gv (qP46 a0.toNat) 1), (gv (qP46 a0.toNat) 2)] 46, .sl (gv (qP46 a0.toNat) 0) 3 1 (u1.keys_.map I), .sl (gv (qP46 a0.toNat) 1) 9 1 (u1.texts_.map SR), .sl (gv (qP46 a0.toNat) 2) 42 1 (u1.kids_.map (PR gP46))])) 9 (by kernel_rfl) (Sc.past rfl (Sc.stay (fun _ hw => hw.sel [1, 2, 3, 4, 5, 6, 7, 8, 9, 10, 11, 12, 13, 14] (by decide) rfl) (Sc.stayD (fun _ hw => hw.sel [1, 2, 3, 4, 5, 6, 7, 8, 9, 10, 11, 12, 13] (by decide) rfl)))) (Sc.now (by kernel_rfl) (fun _ hw => hw)) ?_)
  refine V2.zz [] (Zc.on' (Zc.fin (fun _ hw => hw)) (fun _ hw => hw.sel [0, 1, 2, 3, 4, 5, 6, 7, 8, 9, 11, 12, 13, 14] (by decide) rfl)) (fun hz82 => ?_)
  refine V2.apNil (i := 10) (Nx2.of [] (by kernel_rfl) rfl hz82) rfl rfl rfl eu6 ?_
  refine V2.y (i := 11) (Nx2.of [] (by kernel_rfl) rfl hz82) rfl rfl rfl (Y.fieldP fd46_2 rfl) ?_
  refine V2.eff (i := 12) (by kernel_rfl) rfl ?_
  refine L.storeV (i := 10) sz44 rfl rfl (fun _ hw => (As.at_ (hw.get (i := 0) rfl)).one) rfl (Nat.le_of_ble_eq_true rfl) ?_
  refine L.nil (E.toV2 (stC [] [] (Cls w F [.sl v80 42 1 (l81.map (PR gP46)), .sl v68 9 1 (l69.map SR), .sl (sv b65 1) 9 1 (([x64]).map SR), .sl v39 3 1 (l40.map I), .sl (sv b36 1) 3 1 (([x35]).map I), .obj (gP46 x5.toNat) [(gv (qP46 x5.toNat) 0), (gv (qP46 x5.toNat) 1), (gv (qP46 x5.toNat) 2)] 46, .sl (gv (qP46 x5.toNat) 0) 3 1 (u9.keys_.map I), .sl (gv (qP46 x5.toNat) 1) 9 1 (u9.texts_.map SR), .sl (gv (qP46 x5.toNat) 2) 42 1 (u9.kids_.map (PR gP46)), ar46 gP46 qP46 A46 (x5.toNat :: x3.toNat :: a0.toNat :: H), .obj (gP46 a0.toNat) [(gv (qP46 a0.toNat) 0), (gv (qP46 a0.toNat) 1), (gv (qP46 a0.toNat) 2)] 46, .sl (gv (qP46 a0.toNat) 0) 3 1 (u1.keys_.map I), .sl (gv (qP46 a0.toNat) 1) 9 1 (u1.texts_.map SR), .sl (gv (qP46 a0.toNat) 2) 42 1 (u1.kids_.map (PR gP46))])) 12 (by kernel_rfl) (Sc.past rfl (Sc.stayD (fun _ hw => hw))) (Sc.atD (fun _ hw => hw.sel [0, 1, 2, 3, 4, 5, 6, 7, 8, 9, 11, 12, 13, 14] (by decide) rfl)) ?_)
  refine V2.done (by kernel_rfl) ?_
  refine E.thenN (W.seq (W.drawn2 (k := 24) (stC [[9, 17, 20], [17, 20], [20]] [Cls w F [.sl v80 42 1 (l81.map (PR gP46)), .sl v68 9 1 (l69.map SR), .sl (sv b65 1) 9 1 (([x64]).map SR), .sl v39 3 1 (l40.map I), .sl (sv b36 1) 3 1 (([x35]).map I), .obj (gP46 x5.toNat) [(gv (qP46 x5.toNat) 0), (gv (qP46 x5.toNat) 1), (gv (qP46 x5.toNat) 2)] 46, .sl (gv (qP46 x5.toNat) 0) 3 1 (u9.keys_.map I), .sl (gv (qP46 x5.toNat) 1) 9 1 (u9.texts_.map SR), .sl (gv (qP46 x5.toNat) 2) 42 1 (u9.kids_.map (PR gP46)), ar46 gP46 qP46 A46 (x5.toNat :: x3.toNat :: a0.toNat :: H), .obj (gP46 x3.toNat) [v39, v68, v80] 46, .obj (gP46 a0.toNat) [(gv (qP46 a0.toNat) 0), (gv (qP46 a0.toNat) 1), (gv (qP46 a0.toNat) 2)] 46, .sl (gv (qP46 a0.toNat) 0) 3 1 (u1.keys_.map I), .sl (gv (qP46 a0.toNat) 1) 9 1 (u1.texts_.map SR), .sl (gv (qP46 a0.toNat) 2) 42 1 (u1.kids_.map (PR gP46))], Cls w F [.sl v80 42 1 (l81.map (PR gP46)), .sl v68 9 1 (l69.map SR), .sl (sv b65 1) 9 1 (([x64]).map SR), .sl v39 3 1 (l40.map I), .sl (sv b36 1) 3 1 (([x35]).map I), .obj (gP46 x5.toNat) [(gv (qP46 x5.toNat) 0), (gv (qP46 x5.toNat) 1), (gv (qP46 x5.toNat) 2)] 46, .sl (gv (qP46 x5.toNat) 0) 3 1 (u9.keys_.map I), .sl (gv (qP46 x5.toNat) 1) 9 1 (u9.texts_.map SR), .sl (gv (qP46 x5.toNat) 2) 42 1 (u9.kids_.map (PR gP46)), ar46 gP46 qP46 A46 (x5.toNat :: x3.toNat :: a0.toNat :: H), .obj (gP46 x3.toNat) [v39, v68, v80] 46, .obj (gP46 a0.toNat) [(gv (qP46 a0.toNat) 0), (gv (qP46 a0.toNat) 1), (gv (qP46 a0.toNat) 2)] 46, .sl (gv (qP46 a0.toNat) 1) 9 1 (u1.texts_.map SR), .sl (gv (qP46 a0.toNat) 2) 42 1 (u1.kids_.map (PR gP46))], Cls w F [.sl v80 42 1 (l81.map (PR gP46)), .sl v68 9 1 (l69.map SR), .sl (sv b65 1) 9 1 (([x64]).map SR), .sl v39 3 1 (l40.map I), .sl (sv b36 1) 3 1 (([x35]).map I), .obj (gP46 x5.toNat) [(gv (qP46 x5.toNat) 0), (gv (qP46 x5.toNat) 1), (gv (qP46 x5.toNat) 2)] 46, .sl (gv (qP46 x5.toNat) 0) 3 1 (u9.keys_.map I), .sl (gv (qP46 x5.toNat) 1) 9 1 (u9.texts_.map SR), .sl (gv (qP46 x5.toNat) 2) 42 1 (u9.kids_.map (PR gP46)), ar46 gP46 qP46 A46 (x5.toNat :: x3.toNat :: a0.toNat :: H), .obj (gP46 x3.toNat) [v39, v68, v80] 46, .obj (gP46 a0.toNat) [(gv (qP46 a0.toNat) 0), (gv (qP46 a0.toNat) 1), (gv (qP46 a0.toNat) 2)] 46, .sl (gv (qP46 a0.toNat) 2) 42 1 (u1.kids_.map (PR gP46))]] (Cls w F [.sl v80 42 1 (l81.map (PR gP46)), .sl v68 9 1 (l69.map SR), .sl (sv b65 1) 9 1 (([x64]).map SR), .sl v39 3 1 (l40.map I), .sl (sv b36 1) 3 1 (([x35]).map I), .obj (gP46 x5.toNat) [(gv (qP46 x5.toNat) 0), (gv (qP46 x5.toNat) 1), (gv (qP46 x5.toNat) 2)] 46, .sl (gv (qP46 x5.toNat) 0) 3 1 (u9.keys_.map I), .sl (gv (qP46 x5.toNat) 1) 9 1 (u9.texts_.map SR), .sl (gv (qP46 x5.toNat) 2) 42 1 (u9.kids_.map (PR gP46)), ar46 gP46 qP46 A46 (x5.toNat :: x3.toNat :: a0.toNat :: H), .obj (gP46 x3.toNat) [v39, v68, v80] 46, .sl (gv (qP46 a0.toNat) 2) 42 1 (u1.kids_.map (PR gP46))])) rfl mixed (fun _ hw => hw.drew) (Sc.now (by kernel_rfl) (fun _ hw => hw)) ?_))
  refine V2.zz [] (Zc.on' (Zc.on' (Zc.on' (Zc.fin (fun _ hw => hw)) (fun _ hw => hw.sel [0, 1, 2, 3, 4, 5, 6, 7, 8, 9, 10, 12] (by decide) rfl)) (fun _ hw => hw.sel [0, 1, 2, 3, 4, 5, 6, 7, 8, 9, 10, 13] (by decide) rfl)) (fun _ hw => hw.sel [0, 1, 2, 3, 4, 5, 6, 7, 8, 9, 10, 14] (by decide) rfl)) (fun hz103 => ?_)
  refine V2.y (i := 0) (Nx2.of [] (by kernel_rfl) rfl hz103) rfl rfl rfl (Y.move rfl) ?_
  refine V2.y (i := 1) (Nx2.of [] (by kernel_rfl) rfl hz103) rfl rfl rfl (Y.move rfl) ?_
  refine V2.y (i := 2) (Nx2.of [] (by kernel_rfl) rfl hz103) rfl rfl rfl (Y.move rfl) ?_
  refine V2.apNil (i := 3) (Nx2.of [] (by kernel_rfl) rfl hz103) rfl rfl rfl eu1 ?_
  refine V2.y (i := 4) (Nx2.of [] (by kernel_rfl) rfl hz103) rfl rfl rfl (Y.fieldP fd46_0 rfl) ?_
  refine V2.zz [20] (Zc.on' (Zc.on' (Zc.at1 (fun _ hw => hw)) (fun _ hw => hw.sel [0, 1, 2, 3, 4, 5, 6, 7, 8, 9, 10, 11, 13] (by decide) rfl)) (fun _ hw => hw.sel [0, 1, 2, 3, 4, 5, 6, 7, 8, 9, 10, 11, 14] (by decide) rfl)) (fun hz104 => ?_)
  refine V2.y (i := 5) (Nx2.of [20] (by kernel_rfl) rfl hz104) rfl rfl rfl (Y.loadP (i := 11) ag25 rfl rfl rfl) ?_
  refine V2.y (i := 6) (Nx2.of [] (by kernel_rfl) rfl hz103) rfl rfl rfl (Y.move rfl) ?_
  refine V2.y (i := 7) (Nx2.of [] (by kernel_rfl) rfl hz103) rfl rfl rfl (Y.move rfl) ?_
  refine V2.m (i := 8) (V' := fun x105 => .int .i64 x105) h (Nx2.of [] (by kernel_rfl) rfl hz103) rfl rfl rfl (Y.addM rfl rfl) (fun x105 ex105 h => ?_)
  refine V2.y (i := 10) (Nx2.of [] (by kernel_rfl) rfl hz103) rfl rfl rfl (Y.move rfl) ?_
  refine V2.apNil (i := 11) (Nx2.of [] (by kernel_rfl) rfl hz103) rfl rfl rfl eu1 ?_
  refine V2.y (i := 12) (Nx2.of [] (by kernel_rfl) rfl hz103) rfl rfl rfl (Y.fieldP fd46_1 rfl) ?_
  refine V2.y (i := 13) (Nx2.of [20] (by kernel_rfl) rfl hz104) rfl rfl rfl (Y.loadP (i := 11) ag43 rfl rfl rfl) ?_
  refine V2.y (i := 14) (Nx2.of [] (by kernel_rfl) rfl hz103) rfl rfl rfl (Y.move rfl) ?_
  refine V2.y (i := 15) (Nx2.of [] (by kernel_rfl) rfl hz103) rfl rfl rfl (Y.move rfl) ?_
  refine V2.m (i := 16) (V' := fun x106 => .int .i64 x106) h (Nx2.of [] (by kernel_rfl) rfl hz103) rfl rfl rfl (Y.addM rfl rfl) (fun x106 ex106 h => ?_)
  refine V2.eff (i := 9) (by kernel_rfl) rfl ?_
  refine L.delRD (i := 12) (l := u1.keys_) (a := a1) (b := x105) h wDelR8 rfl en8 rfl rfl rfl rfl ?_
  intro v108 l107 el107 h
  refine L.nil (E.toV2 (stC [[17, 20], [20]] [Cls w F [.sl v80 42 1 (l81.map (PR gP46)), .sl v68 9 1 (l69.map SR), .sl (sv b65 1) 9 1 (([x64]).map SR), .sl v39 3 1 (l40.map I), .sl (sv b36 1) 3 1 (([x35]).map I), .obj (gP46 x5.toNat) [(gv (qP46 x5.toNat) 0), (gv (qP46 x5.toNat) 1), (gv (qP46 x5.toNat) 2)] 46, .sl (gv (qP46 x5.toNat) 0) 3 1 (u9.keys_.map I), .sl (gv (qP46 x5.toNat) 1) 9 1 (u9.texts_.map SR), .sl (gv (qP46 x5.toNat) 2) 42 1 (u9.kids_.map (PR gP46)), ar46 gP46 qP46 A46 (x5.toNat :: x3.toNat :: a0.toNat :: H), .obj (gP46 x3.toNat) [v39, v68, v80] 46, .obj (gP46 a0.toNat) [(gv (qP46 a0.toNat) 0), (gv (qP46 a0.toNat) 1), (gv (qP46 a0.toNat) 2)] 46, .sl v108 3 1 (l107.map I), .sl (gv (qP46 a0.toNat) 1) 9 1 (u1.texts_.map SR), .sl (gv (qP46 a0.toNat) 2) 42 1 (u1.kids_.map (PR gP46))], Cls w F [.sl v80 42 1 (l81.map (PR gP46)), .sl v68 9 1 (l69.map SR), .sl (sv b65 1) 9 1 (([x64]).map SR), .sl v39 3 1 (l40.map I), .sl (sv b36 1) 3 1 (([x35]).map I), .obj (gP46 x5.toNat) [(gv (qP46 x5.toNat) 0), (gv (qP46 x5.toNat) 1), (gv (qP46 x5.toNat) 2)] 46, .sl (gv (qP46 x5.toNat) 0) 3 1 (u9.keys_.map I), .sl (gv (qP46 x5.toNat) 1) 9 1 (u9.texts_.map SR), .sl (gv (qP46 x5.toNat) 2) 42 1 (u9.kids_.map (PR gP46)), ar46 gP46 qP46 A46 (x5.toNat :: x3.toNat :: a0.toNat :: H), .obj (gP46 x3.toNat) [v39, v68, v80] 46, .obj (gP46 a0.toNat) [(gv (qP46 a0.toNat) 0), (gv (qP46 a0.toNat) 1), (gv (qP46 a0.toNat) 2)] 46, .sl v108 3 1 (l107.map I), .sl (gv (qP46 a0.toNat) 2) 42 1 (u1.kids_.map (PR gP46))]] (Cls w F [.sl v80 42 1 (l81.map (PR gP46)), .sl v68 9 1 (l69.map SR), .sl (sv b65 1) 9 1 (([x64]).map SR), .sl v39 3 1 (l40.map I), .sl (sv b36 1) 3 1 (([x35]).map I), .obj (gP46 x5.toNat) [(gv (qP46 x5.toNat) 0), (gv (qP46 x5.toNat) 1), (gv (qP46 x5.toNat) 2)] 46, .sl (gv (qP46 x5.toNat) 0) 3 1 (u9.keys_.map I), .sl (gv (qP46 x5.toNat) 1) 9 1 (u9.texts_.map SR), .sl (gv (qP46 x5.toNat) 2) 42 1 (u9.kids_.map (PR gP46)), ar46 gP46 qP46 A46 (x5.toNat :: x3.toNat :: a0.toNat :: H), .obj (gP46 x3.toNat) [v39, v68, v80] 46, .sl v108 3 1 (l107.map I), .sl (gv (qP46 a0.toNat) 2) 42 1 (u1.kids_.map (PR gP46))])) 9 (by kernel_rfl) (Sc.past rfl (Sc.stay (fun _ hw => hw.sel [0, 1, 2, 3, 4, 5, 6, 7, 8, 9, 10, 11, 13, 14] (by decide) rfl) (Sc.stay (fun _ hw => hw.sel [0, 1, 2, 3, 4, 5, 6, 7, 8, 9, 10, 11, 13] (by decide) rfl) (Sc.stayD (fun _ hw => hw.sel [0, 1, 2, 3, 4, 5, 6, 7, 8, 9, 10, 12] (by decide) rfl))))) (Sc.now (by kernel_rfl) (fun _ hw => hw)) ?_)
  refine V2.eff (i := 17) (by kernel_rfl) rfl ?_
  refine L.delRD (i := 13) (l := u1.texts_) (a := a1) (b := x106) h wDelR25 rfl en25 rfl rfl rfl rfl ?_
  intro v110 l109 el109 h
  refine L.nil (E.toV2 (stC [[20]] [Cls w F [.sl v80 42 1 (l81.map (PR gP46)), .sl v68 9 1 (l69.map SR), .sl (sv b65 1) 9 1 (([x64]).map SR), .sl v39 3 1 (l40.map I), .sl (sv b36 1) 3 1 (([x35]).map I), .obj (gP46 x5.toNat) [(gv (qP46 x5.toNat) 0), (gv (qP46 x5.toNat) 1), (gv (qP46 x5.toNat) 2)] 46, .sl (gv (qP46 x5.toNat) 0) 3 1 (u9.keys_.map I), .sl (gv (qP46 x5.toNat) 1) 9 1 (u9.texts_.map SR), .sl (gv (qP46 x5.toNat) 2) 42 1 (u9.kids_.map (PR gP46)), ar46 gP46 qP46 A46 (x5.toNat :: x3.toNat :: a0.toNat :: H), .obj (gP46 x3.toNat) [v39, v68, v80] 46, .obj (gP46 a0.toNat) [(gv (qP46 a0.toNat) 0), (gv (qP46 a0.toNat) 1), (gv (qP46 a0.toNat) 2)] 46, .sl v108 3 1 (l107.map I), .sl v110 9 1 (l109.map SR), .sl (gv (qP46 a0.toNat) 2) 42 1 (u1.kids_.map (PR gP46))]] (Cls w F [.sl v80 42 1 (l81.map (PR gP46)), .sl v68 9 1 (l69.map SR), .sl (sv b65 1) 9 1 (([x64]).map SR), .sl v39 3 1 (l40.map I), .sl (sv b36 1) 3 1 (([x35]).map I), .obj (gP46 x5.toNat) [(gv (qP46 x5.toNat) 0), (gv (qP46 x5.toNat) 1), (gv (qP46 x5.toNat) 2)] 46, .sl (gv (qP46 x5.toNat) 0) 3 1 (u9.keys_.map I), .sl (gv (qP46 x5.toNat) 1) 9 1 (u9.texts_.map SR), .sl (gv (qP46 x5.toNat) 2) 42 1 (u9.kids_.map (PR gP46)), ar46 gP46 qP46 A46 (x5.toNat :: x3.toNat :: a0.toNat :: H), .obj (gP46 x3.toNat) [v39, v68, v80] 46, .sl v108 3 1 (l107.map I), .sl v110 9 1 (l109.map SR), .sl (gv (qP46 a0.toNat) 2) 42 1 (u1.kids_.map (PR gP46))])) 17 (by kernel_rfl) (Sc.past rfl (Sc.stay (fun _ hw => hw.sel [0, 1, 2, 3, 4, 5, 6, 7, 8, 9, 10, 11, 12, 14] (by decide) rfl) (Sc.stayD (fun _ hw => hw.sel [0, 1, 2, 3, 4, 5, 6, 7, 8, 9, 10, 11, 13] (by decide) rfl)))) (Sc.now (by kernel_rfl) (fun _ hw => hw)) ?_)
  refine V2.zz [] (Zc.on' (Zc.fin (fun _ hw => hw)) (fun _ hw => hw.sel [0, 1, 2, 3, 4, 5, 6, 7, 8, 9, 10, 12, 13, 14] (by decide) rfl)) (fun hz111 => ?_)
  refine V2.apNil (i := 18) (Nx2.of [] (by kernel_rfl) rfl hz111) rfl rfl rfl eu1 ?_
  refine V2.y (i := 19) (Nx2.of [] (by kernel_rfl) rfl hz111) rfl rfl rfl (Y.fieldP fd46_0 rfl) ?_
  refine V2.eff (i := 20) (by kernel_rfl) rfl ?_
  refine L.storeV (i := 11) sz25 rfl rfl (fun _ hw => (As.at_ (hw.get (i := 12) rfl)).one) rfl (Nat.le_of_ble_eq_true rfl) ?_
  refine L.nil (E.toV2 (stC [] [] (Cls w F [.sl v80 42 1 (l81.map (PR gP46)), .sl v68 9 1 (l69.map SR), .sl (sv b65 1) 9 1 (([x64]).map SR), .sl v39 3 1 (l40.map I), .sl (sv b36 1) 3 1 (([x35]).map I), .obj (gP46 x5.toNat) [(gv (qP46 x5.toNat) 0), (gv (qP46 x5.toNat) 1), (gv (qP46 x5.toNat) 2)] 46, .sl (gv (qP46 x5.toNat) 0) 3 1 (u9.keys_.map I), .sl (gv (qP46 x5.toNat) 1) 9 1 (u9.texts_.map SR), .sl (gv (qP46 x5.toNat) 2) 42 1 (u9.kids_.map (PR gP46)), ar46 gP46 qP46 A46 (x5.toNat :: x3.toNat :: a0.toNat :: H), .obj (gP46 x3.toNat) [v39, v68, v80] 46, .sl v108 3 1 (l107.map I), .sl v110 9 1 (l109.map SR), .sl (gv (qP46 a0.toNat) 2) 42 1 (u1.kids_.map (PR gP46))])) 20 (by kernel_rfl) (Sc.past rfl (Sc.stayD (fun _ hw => hw))) (Sc.atD (fun _ hw => hw.sel [0, 1, 2, 3, 4, 5, 6, 7, 8, 9, 10, 12, 13, 14] (by decide) rfl)) ?_)
  refine V2.zz [] (Zc.fin (fun _ hw => hw)) (fun hz112 => ?_)
  refine V2.apNil (i := 21) (Nx2.of [] (by kernel_rfl) rfl hz112) rfl rfl rfl eu1 ?_
  refine V2.y (i := 22) (Nx2.of [] (by kernel_rfl) rfl hz112) rfl rfl rfl (Y.fieldP fd46_1 rfl) ?_
  refine V2.eff (i := 23) (by kernel_rfl) rfl ?_
  refine L.storeV (i := 11) sz43 rfl rfl (fun _ hw => (As.at_ (hw.get (i := 13) rfl)).one) rfl (Nat.le_of_ble_eq_true rfl) ?_
  refine L.nil (E.toV2 (stC [] [] (Cls w F [.sl v80 42 1 (l81.map (PR gP46)), .sl v68 9 1 (l69.map SR), .sl (sv b65 1) 9 1 (([x64]).map SR), .sl v39 3 1 (l40.map I), .sl (sv b36 1) 3 1 (([x35]).map I), .obj (gP46 x5.toNat) [(gv (qP46 x5.toNat) 0), (gv (qP46 x5.toNat) 1), (gv (qP46 x5.toNat) 2)] 46, .sl (gv (qP46 x5.toNat) 0) 3 1 (u9.keys_.map I), .sl (gv (qP46 x5.toNat) 1) 9 1 (u9.texts_.map SR), .sl (gv (qP46 x5.toNat) 2) 42 1 (u9.kids_.map (PR gP46)), ar46 gP46 qP46 A46 (x5.toNat :: x3.toNat :: a0.toNat :: H), .obj (gP46 x3.toNat) [v39, v68, v80] 46, .sl v108 3 1 (l107.map I), .sl v110 9 1 (l109.map SR), .sl (gv (qP46 a0.toNat) 2) 42 1 (u1.kids_.map (PR gP46))])) 23 (by kernel_rfl) (Sc.stayD (fun _ hw => hw)) (Sc.atD (fun _ hw => hw.sel [0, 1, 2, 3, 4, 5, 6, 7, 8, 9, 10, 12, 13, 14] (by decide) rfl)) ?_)
  refine V2.done (by kernel_rfl) ?_
  refine E.thenN (W.region (L.y rfl (Y.move rfl) ?_))
  refine L.y rfl (Y.move rfl) ?_
  refine L.y rfl (Y.apNil rfl eu1) ?_
  refine L.y rfl (Y.fieldP fd46_2 rfl) ?_
  refine L.y rfl (Y.loadP (i := 11) ag44 rfl rfl rfl) ?_
  refine L.y rfl (Y.move rfl) ?_
  refine L.m (V := fun x113 => .int .i64 x113) h rfl (Y.addM rfl rfl) (fun x113 ex113 h => ?_)
  refine L.y rfl (Y.move rfl) ?_
  refine L.m (V := fun x114 => .int .i64 x114) h rfl (Y.addM rfl rfl) (fun x114 ex114 h => ?_)
  refine L.delRD (i := 14) (l := u1.kids_) (a := x113) (b := x114) h wDelR45 rfl en45 rfl rfl rfl rfl ?_
  intro v116 l115 el115 h
  refine L.y rfl (Y.apNil rfl eu1) ?_
  refine L.y rfl (Y.fieldP fd46_2 rfl) ?_
  refine L.storeV (i := 11) sz44 rfl rfl (fun _ hw => (As.at_ (hw.get (i := 14) rfl)).one) rfl (Nat.le_of_ble_eq_true rfl) ?_
  refine L.nil ?_
  obtain ⟨_, c117, h⟩ := bind1S h
  refine E.to (D := Cls w F [ar46 gP46 qP46 A46 (x3.toNat :: a0.toNat :: H), .sl v80 42 1 (l81.map (PR gP46)), .sl v68 9 1 (l69.map SR), .sl (sv b65 1) 9 1 (([x64]).map SR), .sl v39 3 1 (l40.map I), .sl (sv b36 1) 3 1 (([x35]).map I), .obj (gP46 x3.toNat) [v39, v68, v80] 46, .obj (gP46 a0.toNat) [v108, v110, v116] 46, .sl v108 3 1 (l107.map I), .sl v110 9 1 (l109.map SR), .sl v116 42 1 (l115.map (PR gP46))]) (fun _ hw => hw.arShut (hs' := (x5.toNat :: x3.toNat :: a0.toNat :: H)) [5, 6, 7, 8, 9, 0, 1, 2, 3, 4, 10, 11, 12, 13, 14] eu9 (by decide) rfl (fun _ => List.mem_cons) (nin1 (ck_some c12) eu9 eu6 (nin1 (ck_some c11) eu9 eu1 (ck_some c117)))) ?_
  obtain ⟨_, c118, h⟩ := bind1S h
  obtain ⟨l119, el119, h⟩ := bind1S h
  refine E.arClose (row := Tnode.rowA gP46) (sub := Tnode.subA gP46) (e := 46) (g := gP46) (gh := qP46) (vs' := [v39, v68, v80]) (hs := (a0.toNat :: H)) (hs' := (x3.toNat :: a0.toNat :: H)) (m' := [.sl (sv b65 1) 9 1 (([x64]).map SR), .sl (sv b36 1) 3 1 (([x35]).map I), .obj (gP46 a0.toNat) [v108, v110, v116] 46, .sl v108 3 1 (l107.map I), .sl v110 9 1 (l109.map SR), .sl v116 42 1 (l115.map (PR gP46))]) [6, 4, 2, 1, 0, 3, 5, 7, 8, 9, 10] el119 (by decide) rfl (fun _ => List.mem_cons) (nin1 (ck_some c8) eu6 eu1 (ck_some c118)) ?_
  intro q120
  have e121 := idx_upd_ne el119 (ck_some c8).symm eu1
  refine E.to (D := Cls w F [ar46 gP46 q120 l119 (a0.toNat :: H), .sl (sv b65 1) 9 1 (([x64]).map SR), .sl (sv b36 1) 3 1 (([x35]).map I), .obj (gP46 a0.toNat) [v108, v110, v116] 46, .sl v108 3 1 (l107.map I), .sl v110 9 1 (l109.map SR), .sl v116 42 1 (l115.map (PR gP46))]) (fun _ hw => hw) ?_
  obtain ⟨_, c122, h⟩ := bind1S h
  obtain ⟨l123, el123, h⟩ := bind1S h
  refine E.arClose (row := Tnode.rowA gP46) (sub := Tnode.subA gP46) (e := 46) (g := gP46) (gh := q120) (vs' := [v108, v110, v116]) (hs := H) (hs' := (a0.toNat :: H)) (m' := [.sl (sv b65 1) 9 1 (([x64]).map SR), .sl (sv b36 1) 3 1 (([x35]).map I)]) [3, 4, 5, 6, 0, 1, 2] el123 (by decide) rfl (fun _ => List.mem_cons) (ck_some c122) ?_
  intro q124
  refine E.to (D := Cls w F [ar46 gP46 q124 l123 H, .sl (sv b65 1) 9 1 (([x64]).map SR), .sl (sv b36 1) 3 1 (([x35]).map I)]) (fun _ hw => hw) ?_
  refine E.end0 rfl (fun w1 hw => ?_)
  obtain rfl := Option.some.inj h
  exact ⟨_, _, rfl, ⟨_, rfl, rfl⟩, hw.sel [0] (by decide) rfl⟩
set_option maxRecDepth 100000 in
set_option maxHeartbeats 8000000 in
theorem w27_tree_node_mend (a0 : Int) (a1 : Int) (A46 : (List Tnode)) (H : (List Nat)) (gP46 : Nat → Nat) (qP46 : Nat → List Value) (w : World) (r : (List Tnode)) (h : m27_tree_node_mend a0 a1 A46 H = some r) (F : List Nat) (hc0 : Cls w F [ar46 gP46 qP46 A46 H] w) : DoesF Try.prog 27 [VP gP46 a0, .int .i64 a1] F w fun u m => ∃ Q46, u = .tuple #[] ∧ m = [ar46 gP46 Q46 r H] := by
  rw [m27_tree_node_mend] at h
  refine body (n := 74) Try.func27 rfl rfl rfl hc0 ?_
  refine W.seqJ (fun gs D => gs = [(0, VP gP46 a0), (1, .int .i64 a1)] ∧ D = Cls w F [ar46 gP46 qP46 A46 H] ∧ m27_tree_node_mend_K1 a1 A46 a0 H = some r) ?_ ?_
  ·
   refine W.seq (W.region (L.y rfl (Y.move rfl) ?_))
   obtain ⟨u43, eu43, h⟩ := bind1S h
   obtain ⟨_, c44, h⟩ := bind1S h
   refine L.to (D := Cls w F [.obj (gP46 a0.toNat) [(gv (qP46 a0.toNat) 0), (gv (qP46 a0.toNat) 1), (gv (qP46 a0.toNat) 2)] 46, .sl (gv (qP46 a0.toNat) 0) 3 1 (u43.keys_.map I), .sl (gv (qP46 a0.toNat) 1) 9 1 (u43.texts_.map SR), .sl (gv (qP46 a0.toNat) 2) 42 1 (u43.kids_.map (PR gP46)), ar46 gP46 qP46 A46 (a0.toNat :: H)]) (fun _ hw => hw.arOpen (p := 0) rfl eu43 (ck_some c44)) ?_
   refine L.y rfl (Y.apNil rfl eu43) ?_
   refine L.y rfl (Y.fieldP fd46_2 rfl) ?_
   refine L.y rfl (Y.loadP (i := 0) ag44 rfl rfl rfl) ?_
   refine L.y rfl (Y.move rfl) ?_
   refine L.m (V := fun _ => el (gv (qP46 a0.toNat) 2) (a1.toNat * 1)) h rfl (Y.indexM (g := (PR gP46)) (l := u43.kids_) Try.underlying44 sz42 rfl rfl (fun w hw => As.at_ (hw.get (i := 3) rfl))) (fun x45 ex45 h => ?_)
   refine L.y rfl (Y.loadE1 (u := VP gP46 x45) ag42 rfl (fun w hw => As.at_ (hw.get (i := 3) rfl)) (idx_map ex45)) ?_
   obtain ⟨_, c46, h⟩ := bind1S h
   refine L.to (D := Cls w F [ar46 gP46 qP46 A46 H]) (fun _ hw => hw.arShut (hs' := (a0.toNat :: H)) [0, 1, 2, 3, 4] eu43 (by decide) rfl (fun _ => List.mem_cons) (ck_some c46)) ?_
   obtain ⟨u47, eu47, h⟩ := bind1S h
   obtain ⟨_, c48, h⟩ := bind1S h
   refine L.to (D := Cls w F [.obj (gP46 x45.toNat) [(gv (qP46 x45.toNat) 0), (gv (qP46 x45.toNat) 1), (gv (qP46 x45.toNat) 2)] 46, .sl (gv (qP46 x45.toNat) 0) 3 1 (u47.keys_.map I), .sl (gv (qP46 x45.toNat) 1) 9 1 (u47.texts_.map SR), .sl (gv (qP46 x45.toNat) 2) 42 1 (u47.kids_.map (PR gP46)), ar46 gP46 qP46 A46 (x45.toNat :: H)]) (fun _ hw => hw.arOpen (p := 0) rfl eu47 (ck_some c48)) ?_
   refine L.y rfl (Y.apNil rfl eu47) ?_
   refine L.y rfl (Y.fieldP fd46_0 rfl) ?_
   refine L.y rfl (Y.loadP (i := 0) ag25 rfl rfl rfl) ?_
   refine L.y rfl (Y.lenM (g := I) (l := u47.keys_) Try.underlying25 rfl (fun w hw => As.at_ (hw.get (i := 1) rfl))) ?_
   refine L.ite h rfl (Y.geq rfl rfl) (fun c49 h => ?_) (fun c49 h => ?_)
   ·
    refine L.nil (E.thenN (W.condT rfl ?_))
    refine W.ret (E.KSR ?_)
    obtain ⟨_, c50, h⟩ := bind1S h
    refine E.to (D := Cls w F [ar46 gP46 qP46 A46 H]) (fun _ hw => hw.arShut (hs' := (x45.toNat :: H)) [0, 1, 2, 3, 4] eu47 (by decide) rfl (fun _ => List.mem_cons) (ck_some c50)) ?_
    refine E.ret0 rfl (fun w1 hw => ?_)
    obtain rfl := Option.some.inj h
    exact ⟨_, _, rfl, ⟨_, rfl, rfl⟩, hw⟩
   ·
    refine L.nil (E.thenN (W.condF rfl ?_))
    refine W.skip ?_
    obtain ⟨_, c51, h⟩ := bind1S h
    refine E.to (D := Cls w F [ar46 gP46 qP46 A46 H]) (fun _ hw => hw.arShut (hs' := (x45.toNat :: H)) [0, 1, 2, 3, 4] eu47 (by decide) rfl (fun _ => List.mem_cons) (ck_some c51)) ?_
    exact E.joinJ ⟨rfl, rfl, h⟩ ⟨rfl, rfl, trivial⟩ (fun _ hw => hw)
  ·
   rintro _ _ ⟨rfl, rfl, h⟩
   rw [m27_tree_node_mend_K1] at h
   refine W.block (W.seq (W.region (L.cutJ 17 (fun gs D => ∃ (gb1 : Bool), gs = [(0, VP gP46 a0), (1, .int .i64 a1), (36, .bool gb1)] ∧ D = Cls w F [ar46 gP46 qP46 A46 H] ∧ m27_tree_node_mend_K2 a1 a0 A46 H gb1 = some r) ?_ ?_)))
   ·
    refine L.y rfl (Y.move rfl) ?_
    refine L.ite h rfl (Y.gtr rfl rfl) (fun c30 h => ?_) (fun c30 h => ?_)
    ·
     refine L.y rfl (Y.move rfl) ?_
     refine L.take rfl (L.y rfl (Y.move rfl) ?_)
     refine L.take rfl ?_
     obtain ⟨u31, eu31, h⟩ := bind1S h
     obtain ⟨_, c32, h⟩ := bind1S h
     refine L.to (D := Cls w F [.obj (gP46 a0.toNat) [(gv (qP46 a0.toNat) 0), (gv (qP46 a0.toNat) 1), (gv (qP46 a0.toNat) 2)] 46, .sl (gv (qP46 a0.toNat) 0) 3 1 (u31.keys_.map I), .sl (gv (qP46 a0.toNat) 1) 9 1 (u31.texts_.map SR), .sl (gv (qP46 a0.toNat) 2) 42 1 (u31.kids_.map (PR gP46)), ar46 gP46 qP46 A46 (a0.toNat :: H)]) (fun _ hw => hw.arOpen (p := 0) rfl eu31 (ck_some c32)) ?_
     refine L.y rfl (Y.apNil rfl eu31) ?_
     refine L.take rfl (L.y rfl (Y.fieldP fd46_2 rfl) ?_)
     refine L.take rfl (L.y rfl (Y.loadP (i := 0) ag44 rfl rfl rfl) ?_)
     refine L.take rfl (L.y rfl (Y.move rfl) ?_)
     refine L.take rfl (L.m (V := fun x33 => .int .i64 x33) h rfl (Y.subM rfl rfl) (fun x33 ex33 h => ?_))
     refine L.take rfl (L.m (V := fun _ => el (gv (qP46 a0.toNat) 2) (x33.toNat * 1)) h rfl (Y.indexM (g := (PR gP46)) (l := u31.kids_) Try.underlying44 sz42 rfl rfl (fun w hw => As.at_ (hw.get (i := 3) rfl))) (fun x34 ex34 h => ?_))
     refine L.take rfl (L.y rfl (Y.loadE1 (u := VP gP46 x34) ag42 rfl (fun w hw => As.at_ (hw.get (i := 3) rfl)) (idx_map ex34)) ?_)
     refine L.take rfl ?_
     obtain ⟨u35, eu35, h⟩ := bind1S h
     obtain ⟨_, c36, h⟩ := bind1S h
     obtain ⟨_, c37, h⟩ := bind1S h
     refine L.to (D := Cls w F [.obj (gP46 x34.toNat) [(gv (qP46 x34.toNat) 0), (gv (qP46 x34.toNat) 1), (gv (qP46 x34.toNat) 2)] 46, .sl (gv (qP46 x34.toNat) 0) 3 1 (u35.keys_.map I), .sl (gv (qP46 x34.toNat) 1) 9 1 (u35.texts_.map SR), .sl (gv (qP46 x34.toNat) 2) 42 1 (u35.kids_.map (PR gP46)), ar46 gP46 qP46 A46 (x34.toNat :: a0.toNat :: H), .obj (gP46 a0.toNat) [(gv (qP46 a0.toNat) 0), (gv (qP46 a0.toNat) 1), (gv (qP46 a0.toNat) 2)] 46, .sl (gv (qP46 a0.toNat) 0) 3 1 (u31.keys_.map I), .sl (gv (qP46 a0.toNat) 1) 9 1 (u31.texts_.map SR), .sl (gv (qP46 a0.toNat) 2) 42 1 (u31.kids_.map (PR gP46))]) (fun _ hw => hw.arOpen (p := 4) rfl eu35 (nin1 (ck_some c37) eu35 eu31 (ck_some c36))) ?_
     refine L.y rfl (Y.apNil rfl eu35) ?_
     refine L.take rfl (L.y rfl (Y.fieldP fd46_0 rfl) ?_)
     refine L.take rfl (L.y rfl (Y.loadP (i := 0) ag25 rfl rfl rfl) ?_)
     refine L.take rfl (L.y rfl (Y.lenM (g := I) (l := u35.keys_) Try.underlying25 rfl (fun w hw => As.at_ (hw.get (i := 1) rfl))) ?_)
     refine L.take rfl (L.ite h rfl (Y.gtr rfl rfl) (fun c38 h => ?_) (fun c38 h => ?_))
     ·
      refine L.y rfl (Y.pickT rfl rfl) ?_
      obtain ⟨_, c39, h⟩ := bind1S h
      refine L.to (D := Cls w F [ar46 gP46 qP46 A46 (a0.toNat :: H), .obj (gP46 a0.toNat) [(gv (qP46 a0.toNat) 0), (gv (qP46 a0.toNat) 1), (gv (qP46 a0.toNat) 2)] 46, .sl (gv (qP46 a0.toNat) 0) 3 1 (u31.keys_.map I), .sl (gv (qP46 a0.toNat) 1) 9 1 (u31.texts_.map SR), .sl (gv (qP46 a0.toNat) 2) 42 1 (u31.kids_.map (PR gP46))]) (fun _ hw => hw.arShut (hs' := (x34.toNat :: a0.toNat :: H)) [0, 1, 2, 3, 4, 5, 6, 7, 8] eu35 (by decide) rfl (fun _ => List.mem_cons) (nin1 (ck_some c37) eu35 eu31 (ck_some c39))) ?_
      obtain ⟨_, c40, h⟩ := bind1S h
      refine L.to (D := Cls w F [ar46 gP46 qP46 A46 H]) (fun _ hw => hw.arShut (hs' := (a0.toNat :: H)) [1, 2, 3, 4, 0] eu31 (by decide) rfl (fun _ => List.mem_cons) (ck_some c40)) ?_
      exact L.nil (E.joinJ ⟨true, rfl, rfl, h⟩ ⟨rfl, rfl, rfl, trivial⟩ (fun _ hw => hw))
     ·
      refine L.y rfl (Y.pickT rfl rfl) ?_
      obtain ⟨_, c41, h⟩ := bind1S h
      refine L.to (D := Cls w F [ar46 gP46 qP46 A46 (a0.toNat :: H), .obj (gP46 a0.toNat) [(gv (qP46 a0.toNat) 0), (gv (qP46 a0.toNat) 1), (gv (qP46 a0.toNat) 2)] 46, .sl (gv (qP46 a0.toNat) 0) 3 1 (u31.keys_.map I), .sl (gv (qP46 a0.toNat) 1) 9 1 (u31.texts_.map SR), .sl (gv (qP46 a0.toNat) 2) 42 1 (u31.kids_.map (PR gP46))]) (fun _ hw => hw.arShut (hs' := (x34.toNat :: a0.toNat :: H)) [0, 1, 2, 3, 4, 5, 6, 7, 8] eu35 (by decide) rfl (fun _ => List.mem_cons) (nin1 (ck_some c37) eu35 eu31 (ck_some c41))) ?_
      obtain ⟨_, c42, h⟩ := bind1S h
      refine L.to (D := Cls w F [ar46 gP46 qP46 A46 H]) (fun _ hw => hw.arShut (hs' := (a0.toNat :: H)) [1, 2, 3, 4, 0] eu31 (by decide) rfl (fun _ => List.mem_cons) (ck_some c42)) ?_
      exact L.nil (E.joinJ ⟨false, rfl, rfl, h⟩ ⟨rfl, rfl, rfl, trivial⟩ (fun _ hw => hw))
    ·
     refine L.y rfl (Y.move rfl) ?_
     refine L.pass rfl rfl (by nofun) ?_
     refine L.pass rfl rfl (by nofun) ?_
     refine L.pass rfl rfl (by nofun) ?_
     refine L.pass rfl rfl (by nofun) ?_
     refine L.pass rfl rfl (by nofun) ?_
     refine L.pass rfl rfl (by nofun) ?_
     refine L.pass rfl rfl (by nofun) ?_
     refine L.pass rfl rfl (by nofun) ?_
     refine L.pass rfl rfl (by nofun) ?_
     refine L.pass rfl rfl (by nofun) ?_
     refine L.pass rfl rfl (by nofun) ?_
     refine L.pass rfl rfl (by nofun) ?_
     refine L.pass rfl rfl (by nofun) ?_
     refine L.y rfl (Y.pickF rfl rfl) ?_
     exact L.nil (E.joinJ ⟨false, rfl, rfl, h⟩ ⟨rfl, rfl, rfl, trivial⟩ (fun _ hw => hw))
   ·
    rintro _ _ ⟨gb1, rfl, rfl, h⟩
    rw [m27_tree_node_mend_K2] at h
    rcases gb1 with _ | _
    ·
     replace h := iteF h
     refine L.y rfl (Y.assign rfl) ?_
     refine L.nil (E.thenN (W.condF rfl ?_))
     refine W.seq (W.region (L.cutJ 22 (fun gs D => ∃ (gb2 : Bool), gs = [(0, VP gP46 a0), (1, .int .i64 a1), (63, .bool gb2)] ∧ D = Cls w F [ar46 gP46 qP46 A46 H] ∧ m27_tree_node_mend_K3 a0 a1 A46 H gb2 = some r) ?_ ?_))
     ·
      refine L.y rfl (Y.move rfl) ?_
      refine L.y rfl (Y.move rfl) ?_
      obtain ⟨u12, eu12, h⟩ := bind1S h
      obtain ⟨_, c13, h⟩ := bind1S h
      refine L.to (D := Cls w F [.obj (gP46 a0.toNat) [(gv (qP46 a0.toNat) 0), (gv (qP46 a0.toNat) 1), (gv (qP46 a0.toNat) 2)] 46, .sl (gv (qP46 a0.toNat) 0) 3 1 (u12.keys_.map I), .sl (gv (qP46 a0.toNat) 1) 9 1 (u12.texts_.map SR), .sl (gv (qP46 a0.toNat) 2) 42 1 (u12.kids_.map (PR gP46)), ar46 gP46 qP46 A46 (a0.toNat :: H)]) (fun _ hw => hw.arOpen (p := 0) rfl eu12 (ck_some c13)) ?_
      refine L.y rfl (Y.apNil rfl eu12) ?_
      refine L.y rfl (Y.fieldP fd46_0 rfl) ?_
      refine L.y rfl (Y.loadP (i := 0) ag25 rfl rfl rfl) ?_
      refine L.y rfl (Y.lenM (g := I) (l := u12.keys_) Try.underlying25 rfl (fun w hw => As.at_ (hw.get (i := 1) rfl))) ?_
      refine L.ite h rfl (Y.lss rfl rfl) (fun c14 h => ?_) (fun c14 h => ?_)
      ·
       refine L.y rfl (Y.move rfl) ?_
       refine L.take rfl (L.y rfl (Y.move rfl) ?_)
       refine L.take rfl (L.y rfl (Y.apNil rfl eu12) ?_)
       refine L.take rfl (L.y rfl (Y.fieldP fd46_2 rfl) ?_)
       refine L.take rfl (L.y rfl (Y.loadP (i := 0) ag44 rfl rfl rfl) ?_)
       refine L.take rfl (L.y rfl (Y.move rfl) ?_)
       refine L.take rfl (L.m (V := fun x15 => .int .i64 x15) h rfl (Y.addM rfl rfl) (fun x15 ex15 h => ?_))
       refine L.take rfl (L.m (V := fun _ => el (gv (qP46 a0.toNat) 2) (x15.toNat * 1)) h rfl (Y.indexM (g := (PR gP46)) (l := u12.kids_) Try.underlying44 sz42 rfl rfl (fun w hw => As.at_ (hw.get (i := 3) rfl))) (fun x16 ex16 h => ?_))
       refine L.take rfl (L.y rfl (Y.loadE1 (u := VP gP46 x16) ag42 rfl (fun w hw => As.at_ (hw.get (i := 3) rfl)) (idx_map ex16)) ?_)
       refine L.take rfl ?_
       obtain ⟨u17, eu17, h⟩ := bind1S h
       obtain ⟨_, c18, h⟩ := bind1S h
       obtain ⟨_, c19, h⟩ := bind1S h
       refine L.to (D := Cls w F [.obj (gP46 x16.toNat) [(gv (qP46 x16.toNat) 0), (gv (qP46 x16.toNat) 1), (gv (qP46 x16.toNat) 2)] 46, .sl (gv (qP46 x16.toNat) 0) 3 1 (u17.keys_.map I), .sl (gv (qP46 x16.toNat) 1) 9 1 (u17.texts_.map SR), .sl (gv (qP46 x16.toNat) 2) 42 1 (u17.kids_.map (PR gP46)), ar46 gP46 qP46 A46 (x16.toNat :: a0.toNat :: H), .obj (gP46 a0.toNat) [(gv (qP46 a0.toNat) 0), (gv (qP46 a0.toNat) 1), (gv (qP46 a0.toNat) 2)] 46, .sl (gv (qP46 a0.toNat) 0) 3 1 (u12.keys_.map I), .sl (gv (qP46 a0.toNat) 1) 9 1 (u12.texts_.map SR), .sl (gv (qP46 a0.toNat) 2) 42 1 (u12.kids_.map (PR gP46))]) (fun _ hw => hw.arOpen (p := 4) rfl eu17 (nin1 (ck_some c19) eu17 eu12 (ck_some c18))) ?_
       refine L.y rfl (Y.apNil rfl eu17) ?_
       refine L.take rfl (L.y rfl (Y.fieldP fd46_0 rfl) ?_)
       refine L.take rfl (L.y rfl (Y.loadP (i := 0) ag25 rfl rfl rfl) ?_)
       refine L.take rfl (L.y rfl (Y.lenM (g := I) (l := u17.keys_) Try.underlying25 rfl (fun w hw => As.at_ (hw.get (i := 1) rfl))) ?_)
       refine L.take rfl (L.ite h rfl (Y.gtr rfl rfl) (fun c20 h => ?_) (fun c20 h => ?_))
       ·
        refine L.y rfl (Y.pickT rfl rfl) ?_
        obtain ⟨_, c21, h⟩ := bind1S h
        refine L.to (D := Cls w F [ar46 gP46 qP46 A46 (a0.toNat :: H), .obj (gP46 a0.toNat) [(gv (qP46 a0.toNat) 0), (gv (qP46 a0.toNat) 1), (gv (qP46 a0.toNat) 2)] 46, .sl (gv (qP46 a0.toNat) 0) 3 1 (u12.keys_.map I), .sl (gv (qP46 a0.toNat) 1) 9 1 (u12.texts_.map SR), .sl (gv (qP46 a0.toNat) 2) 42 1 (u12.kids_.map (PR gP46))]) (fun _ hw => hw.arShut (hs' := (x16.toNat :: a0.toNat :: H)) [0, 1, 2, 3, 4, 5, 6, 7, 8] eu17 (by decide) rfl (fun _ => List.mem_cons) (nin1 (ck_some c19) eu17 eu12 (ck_some c21))) ?_
        obtain ⟨_, c22, h⟩ := bind1S h
        refine L.to (D := Cls w F [ar46 gP46 qP46 A46 H]) (fun _ hw => hw.arShut (hs' := (a0.toNat :: H)) [1, 2, 3, 4, 0] eu12 (by decide) rfl (fun _ => List.mem_cons) (ck_some c22)) ?_
        exact L.nil (E.joinJ ⟨true, rfl, rfl, h⟩ ⟨rfl, rfl, rfl, trivial⟩ (fun _ hw => hw))
       ·
        refine L.y rfl (Y.pickT rfl rfl) ?_
        obtain ⟨_, c23, h⟩ := bind1S h
        refine L.to (D := Cls w F [ar46 gP46 qP46 A46 (a0.toNat :: H), .obj (gP46 a0.toNat) [(gv (qP46 a0.toNat) 0), (gv (qP46 a0.toNat) 1), (gv (qP46 a0.toNat) 2)] 46, .sl (gv (qP46 a0.toNat) 0) 3 1 (u12.keys_.map I), .sl (gv (qP46 a0.toNat) 1) 9 1 (u12.texts_.map SR), .sl (gv (qP46 a0.toNat) 2) 42 1 (u12.kids_.map (PR gP46))]) (fun _ hw => hw.arShut (hs' := (x16.toNat :: a0.toNat :: H)) [0, 1, 2, 3, 4, 5, 6, 7, 8] eu17 (by decide) rfl (fun _ => List.mem_cons) (nin1 (ck_some c19) eu17 eu12 (ck_some c23))) ?_
        obtain ⟨_, c24, h⟩ := bind1S h
        refine L.to (D := Cls w F [ar46 gP46 qP46 A46 H]) (fun _ hw => hw.arShut (hs' := (a0.toNat :: H)) [1, 2, 3, 4, 0] eu12 (by decide) rfl (fun _ => List.mem_cons) (ck_some c24)) ?_
        exact L.nil (E.joinJ ⟨false, rfl, rfl, h⟩ ⟨rfl, rfl, rfl, trivial⟩ (fun _ hw => hw))
      ·
       refine L.y rfl (Y.move rfl) ?_
       refine L.pass rfl rfl (by nofun) ?_
       refine L.pass rfl rfl (by nofun) ?_
       refine L.pass rfl rfl (by nofun) ?_
       refine L.pass rfl rfl (by nofun) ?_
       refine L.pass rfl rfl (by nofun) ?_
       refine L.pass rfl rfl (by nofun) ?_
       refine L.pass rfl rfl (by nofun) ?_
       refine L.pass rfl rfl (by nofun) ?_
       refine L.pass rfl rfl (by nofun) ?_
       refine L.pass rfl rfl (by nofun) ?_
       refine L.pass rfl rfl (by nofun) ?_
       refine L.pass rfl rfl (by nofun) ?_
       refine L.pass rfl rfl (by nofun) ?_
       refine L.y rfl (Y.pickF rfl rfl) ?_
       obtain ⟨_, c25, h⟩ := bind1S h
       refine L.to (D := Cls w F [ar46 gP46 qP46 A46 H]) (fun _ hw => hw.arShut (hs' := (a0.toNat :: H)) [0, 1, 2, 3, 4] eu12 (by decide) rfl (fun _ => List.mem_cons) (ck_some c25)) ?_
       exact L.nil (E.joinJ ⟨false, rfl, rfl, h⟩ ⟨rfl, rfl, rfl, trivial⟩ (fun _ hw => hw))
     ·
      rintro _ _ ⟨gb2, rfl, rfl, h⟩
      rw [m27_tree_node_mend_K3] at h
      rcases gb2 with _ | _
      ·
       replace h := iteF h
       refine L.y rfl (Y.assign rfl) ?_
       refine L.nil (E.thenN (W.condF rfl ?_))
       refine W.seq (W.region (L.y rfl (Y.move rfl) ?_))
       refine L.ite h rfl (Y.gtr rfl rfl) (fun c1 h => ?_) (fun c1 h => ?_)
       ·
        refine L.y rfl (Y.assign rfl) ?_
        refine L.nil (E.thenN (W.condT rfl ?_))
        refine W.region (L.y rfl (Y.move rfl) ?_)
        refine L.y rfl (Y.move rfl) ?_
        refine L.m (V := fun x2 => .int .i64 x2) h rfl (Y.subM rfl rfl) (fun x2 ex2 h => ?_)
        obtain ⟨l3, e4, h⟩ := bind1S h
        refine L.doesP (A := [ar46 gP46 qP46 A46 H]) (M := []) rfl en36 rfl (fun w' hw => w36_tree_node_join a0 x2 A46 H gP46 qP46 w' _ e4 _ hw.lend) ?_
        rintro _ _ ⟨q5, rfl, rfl⟩
        refine L.to (D := Cls w F [ar46 gP46 q5 l3 H]) (fun _ hw => hw) ?_
        refine L.nil (E.blockN (E.end0 rfl (fun w1 hw => ?_)))
        obtain rfl := Option.some.inj h
        exact ⟨_, _, rfl, ⟨_, rfl, rfl⟩, hw⟩
       ·
        refine L.y rfl (Y.assign rfl) ?_
        refine L.nil (E.thenN (W.condF rfl ?_))
        refine W.region (L.y rfl (Y.move rfl) ?_)
        refine L.y rfl (Y.move rfl) ?_
        obtain ⟨l6, e7, h⟩ := bind1S h
        refine L.doesP (A := [ar46 gP46 qP46 A46 H]) (M := []) rfl en36 rfl (fun w' hw => w36_tree_node_join a0 a1 A46 H gP46 qP46 w' _ e7 _ hw.lend) ?_
        rintro _ _ ⟨q8, rfl, rfl⟩
        refine L.to (D := Cls w F [ar46 gP46 q8 l6 H]) (fun _ hw => hw) ?_
        refine L.nil (E.blockN (E.end0 rfl (fun w1 hw => ?_)))
        obtain rfl := Option.some.inj h
        exact ⟨_, _, rfl, ⟨_, rfl, rfl⟩, hw⟩
      ·
       replace h := iteT h
       refine L.y rfl (Y.assign rfl) ?_
       refine L.nil (E.thenN (W.condT rfl ?_))
       refine W.region (L.y rfl (Y.move rfl) ?_)
       refine L.y rfl (Y.move rfl) ?_
       obtain ⟨l9, e10, h⟩ := bind1S h
       refine L.doesP (A := [ar46 gP46 qP46 A46 H]) (M := []) rfl en35 rfl (fun w' hw => w35_tree_node_left a0 a1 A46 H gP46 qP46 w' _ e10 _ hw.lend) ?_
       rintro _ _ ⟨q11, rfl, rfl⟩
       refine L.to (D := Cls w F [ar46 gP46 q11 l9 H]) (fun _ hw => hw) ?_
       refine L.nil (E.blockN (E.end0 rfl (fun w1 hw => ?_)))
       obtain rfl := Option.some.inj h
       exact ⟨_, _, rfl, ⟨_, rfl, rfl⟩, hw⟩
    ·
     replace h := iteT h
     refine L.y rfl (Y.assign rfl) ?_
     refine L.nil (E.thenN (W.condT rfl ?_))
     refine W.region (L.y rfl (Y.move rfl) ?_)
     refine L.y rfl (Y.move rfl) ?_
     refine L.m (V := fun x26 => .int .i64 x26) h rfl (Y.subM rfl rfl) (fun x26 ex26 h => ?_)
     obtain ⟨l27, e28, h⟩ := bind1S h
     refine L.doesP (A := [ar46 gP46 qP46 A46 H]) (M := []) rfl en34 rfl (fun w' hw => w34_tree_node_right a0 x26 A46 H gP46 qP46 w' _ e28 _ hw.lend) ?_
     rintro _ _ ⟨q29, rfl, rfl⟩
     refine L.to (D := Cls w F [ar46 gP46 q29 l27 H]) (fun _ hw => hw) ?_
     refine L.nil (E.blockN (E.end0 rfl (fun w1 hw => ?_)))
     obtain rfl := Option.some.inj h
     exact ⟨_, _, rfl, ⟨_, rfl, rfl⟩, hw⟩
set_option maxRecDepth 100000 in
set_option maxHeartbeats 8000000 in
theorem w26_tree_node_lastR : ∀ (n : Nat) (a0 : Int) (A46 : (List Tnode)) (H : (List Nat)) (gP46 : Nat → Nat) (qP46 : Nat → List Value) (w : World) (r : ((List Tnode) × Int × (List UInt8))) (h : m26_tree_node_lastR n a0 A46 H = some r) (F : List Nat) (hc0 : Cls w F [ar46 gP46 qP46 A46 H] w), DoesF Try.prog 26 [VP gP46 a0] F w fun u m => ∃ Q46, u = .tuple #[.int .i64 r.2.1, st r.2.2] ∧ m = [ar46 gP46 Q46 r.1 H] := by
  intro n
  induction n with
  | zero => intro a0 A46 H gP46 qP46 w r h F hc0; rw [m26_tree_node_lastR] at h; cases h
  | succ n ih =>
  intro a0 A46 H gP46 qP46 w r h F hc0
  rw [m26_tree_node_lastR] at h
  generalize m26_tree_node_lastR n = rec at h ih
  rw [m26_tree_node_lastB] at h
  refine body (n := 73) Try.func26 rfl rfl rfl hc0 ?_
  refine W.seq (W.region (L.y rfl (Y.assign rfl) ?_))
  refine L.y rfl (Y.assign rfl) ?_
  refine L.nil (E.thenN (W.seq (W.region (L.y rfl (Y.move rfl) ?_))))
  obtain ⟨u1, eu1, h⟩ := bind1S h
  obtain ⟨_, c2, h⟩ := bind1S h
  refine L.to (D := Cls w F [.obj (gP46 a0.toNat) [(gv (qP46 a0.toNat) 0), (gv (qP46 a0.toNat) 1), (gv (qP46 a0.toNat) 2)] 46, .sl (gv (qP46 a0.toNat) 0) 3 1 (u1.keys_.map I), .sl (gv (qP46 a0.toNat) 1) 9 1 (u1.texts_.map SR), .sl (gv (qP46 a0.toNat) 2) 42 1 (u1.kids_.map (PR gP46)), ar46 gP46 qP46 A46 (a0.toNat :: H)]) (fun _ hw => hw.arOpen (p := 0) rfl eu1 (ck_some c2)) ?_
  refine L.y rfl (Y.apNil rfl eu1) ?_
  refine L.y rfl (Y.fieldP fd46_0 rfl) ?_
  refine L.y rfl (Y.loadP (i := 0) ag25 rfl rfl rfl) ?_
  refine L.y rfl (Y.lenM (g := I) (l := u1.keys_) Try.underlying25 rfl (fun w hw => As.at_ (hw.get (i := 1) rfl))) ?_
  refine L.m (V := fun x3 => .int .i64 x3) h rfl (Y.subM rfl rfl) (fun x3 ex3 h => ?_)
  refine L.y rfl (Y.assign rfl) ?_
  refine L.nil (E.thenN (W.seqJ (fun gs D => gs = [(0, VP gP46 a0), (4, .int .i64 x3)] ∧ D = Cls w F [ar46 gP46 qP46 A46 H] ∧ m26_tree_node_last_K1 A46 a0 H x3 rec = some r) ?_ ?_))
  ·
   refine W.seq (W.region (L.y rfl (Y.move rfl) ?_))
   refine L.y rfl (Y.apNil rfl eu1) ?_
   refine L.y rfl (Y.fieldP fd46_2 rfl) ?_
   refine L.y rfl (Y.loadP (i := 0) ag44 rfl rfl rfl) ?_
   refine L.y rfl (Y.lenM (g := (PR gP46)) (l := u1.kids_) Try.underlying44 rfl (fun w hw => As.at_ (hw.get (i := 3) rfl))) ?_
   refine L.ite h rfl (Y.eql rfl rfl) (fun c18 h => ?_) (fun c18 h => ?_)
   ·
    refine L.nil (E.thenN (W.condT rfl ?_))
    refine W.seq (W.quietC mixed (by kernel_rfl) (fun _ hw => hw.drew) (fun hC => ?_))
    refine U.y rfl (Y.move rfl) ?_
    refine U.y rfl (Y.apNil rfl eu1) ?_
    refine U.y rfl (Y.fieldP fd46_0 rfl) ?_
    refine U.y rfl (Y.loadP (i := 0) ag25 rfl rfl rfl) ?_
    refine U.y rfl (Y.move rfl) ?_
    refine U.m (V := fun _ => el (gv (qP46 a0.toNat) 0) (x3.toNat * 1)) h rfl (Y.indexM (g := I) (l := u1.keys_) Try.underlying25 sz3 rfl rfl (fun w hw => As.at_ (hw.get (i := 1) rfl))) (fun x19 ex19 h => ?_)
    refine U.y rfl (Y.loadE1 (u := .int .i64 x19) ag3 rfl (fun w hw => As.at_ (hw.get (i := 1) rfl)) (idx_map ex19)) ?_
    refine U.y rfl (Y.move rfl) ?_
    refine U.y rfl (Y.apNil rfl eu1) ?_
    refine U.y rfl (Y.fieldP fd46_1 rfl) ?_
    refine U.y rfl (Y.loadP (i := 0) ag43 rfl rfl rfl) ?_
    refine U.y rfl (Y.move rfl) ?_
    refine U.m (V := fun _ => el (gv (qP46 a0.toNat) 1) (x3.toNat * 1)) h rfl (Y.indexM (g := SR) (l := u1.texts_) Try.underlying43 sz9 rfl rfl (fun w hw => As.at_ (hw.get (i := 2) rfl))) (fun x20 ex20 h => ?_)
    refine U.y rfl (Y.loadE1 (u := st x20) ag9 rfl (fun w hw => As.at_ (hw.get (i := 2) rfl)) (idx_map ex20)) ?_
    refine U.y rfl (Y.assign rfl) ?_
    refine U.y rfl (Y.assign rfl) ?_
    refine U.nil (E.thenN (W.seq (W.drawn2 (k := 20) (stC [[16, 19], [19]] [Cls w F [.obj (gP46 a0.toNat) [(gv (qP46 a0.toNat) 0), (gv (qP46 a0.toNat) 1), (gv (qP46 a0.toNat) 2)] 46, .sl (gv (qP46 a0.toNat) 0) 3 1 (u1.keys_.map I), .sl (gv (qP46 a0.toNat) 1) 9 1 (u1.texts_.map SR), .sl (gv (qP46 a0.toNat) 2) 42 1 (u1.kids_.map (PR gP46)), ar46 gP46 qP46 A46 (a0.toNat :: H)], Cls w F [.sl (gv (qP46 a0.toNat) 1) 9 1 (u1.texts_.map SR), .sl (gv (qP46 a0.toNat) 2) 42 1 (u1.kids_.map (PR gP46)), ar46 gP46 qP46 A46 (a0.toNat :: H)]] (Cls w F [.sl (gv (qP46 a0.toNat) 2) 42 1 (u1.kids_.map (PR gP46)), ar46 gP46 qP46 A46 (a0.toNat :: H)])) rfl mixed (fun _ hw => hw.drew) (Sc.now (by kernel_rfl) (fun _ hw => hw)) ?_)))
    refine V2.zz [] (Zc.on' (Zc.on' (Zc.fin (fun _ hw => hw)) (fun _ hw => hw.sel [1, 2] (by decide) rfl)) (fun _ hw => hw.sel [3, 4] (by decide) rfl)) (fun hz33 => ?_)
    refine V2.y (i := 0) (Nx2.of [] (by kernel_rfl) rfl hz33) rfl rfl rfl (Y.move rfl) ?_
    refine V2.y (i := 1) (Nx2.of [] (by kernel_rfl) rfl hz33) rfl rfl rfl (Y.move rfl) ?_
    refine V2.y (i := 2) (Nx2.of [] (by kernel_rfl) rfl hz33) rfl rfl rfl (Y.move rfl) ?_
    refine V2.apNil (i := 3) (Nx2.of [] (by kernel_rfl) rfl hz33) rfl rfl rfl eu1 ?_
    refine V2.y (i := 4) (Nx2.of [] (by kernel_rfl) rfl hz33) rfl rfl rfl (Y.fieldP fd46_0 rfl) ?_
    refine V2.zz [16, 19] (Zc.at1 (fun _ hw => hw)) (fun hz35 => ?_)
    refine V2.y (i := 5) (Nx2.of [16, 19] (by kernel_rfl) rfl hz35) rfl rfl rfl (Y.loadP (i := 0) ag25 rfl rfl rfl) ?_
    refine V2.y (i := 6) (Nx2.of [] (by kernel_rfl) rfl hz33) rfl rfl rfl (Y.move rfl) ?_
    refine V2.m (i := 7) (V' := fun _ => cutv (gv (qP46 a0.toNat) 0) x3.toNat) h (Nx2.of [16, 19] (by kernel_rfl) rfl hz35) rfl rfl rfl (Y.cutM (g := I) Try.underlying25 sz3 rfl rfl (fun w hw => As.at_ (hw.get (i := 1) rfl))) (fun l37 el37 h => ?_)
    refine V2.y (i := 8) (Nx2.of [] (by kernel_rfl) rfl hz33) rfl rfl rfl (Y.move rfl) ?_
    refine V2.apNil (i := 9) (Nx2.of [] (by kernel_rfl) rfl hz33) rfl rfl rfl eu1 ?_
    refine V2.y (i := 10) (Nx2.of [] (by kernel_rfl) rfl hz33) rfl rfl rfl (Y.fieldP fd46_1 rfl) ?_
    refine V2.y (i := 11) (Nx2.of [16, 19] (by kernel_rfl) rfl hz35) rfl rfl rfl (Y.loadP (i := 0) ag43 rfl rfl rfl) ?_
    refine V2.y (i := 12) (Nx2.of [] (by kernel_rfl) rfl hz33) rfl rfl rfl (Y.move rfl) ?_
    refine V2.zz [19] (Zc.on' (Zc.at1 (fun _ hw => hw)) (fun _ hw => hw.sel [2, 3, 4] (by decide) rfl)) (fun hz39 => ?_)
    refine V2.m (i := 13) (V' := fun _ => cutv (gv (qP46 a0.toNat) 1) x3.toNat) h (Nx2.of [19] (by kernel_rfl) rfl hz39) rfl rfl rfl (Y.cutM (g := SR) Try.underlying43 sz9 rfl rfl (fun w hw => As.at_ (hw.get (i := 0) rfl))) (fun l40 el40 h => ?_)
    refine V2.apNil (i := 14) (Nx2.of [] (by kernel_rfl) rfl hz33) rfl rfl rfl eu1 ?_
    refine V2.y (i := 15) (Nx2.of [] (by kernel_rfl) rfl hz33) rfl rfl rfl (Y.fieldP fd46_0 rfl) ?_
    refine V2.eff (i := 16) (by kernel_rfl) rfl ?_
    refine L.cutT (i := 1) (g := I) el37 rfl ?_
    refine L.storeV (i := 0) sz25 rfl rfl (fun _ hw => (As.at_ (hw.get (i := 1) rfl)).one) rfl (Nat.le_of_ble_eq_true rfl) ?_
    refine L.nil (E.toV2 (stC [[19]] [Cls w F [.sl (cutv (gv (qP46 a0.toNat) 0) x3.toNat) 3 1 (l37.map I), .sl (gv (qP46 a0.toNat) 1) 9 1 (u1.texts_.map SR), .sl (gv (qP46 a0.toNat) 2) 42 1 (u1.kids_.map (PR gP46)), ar46 gP46 qP46 A46 (a0.toNat :: H)]] (Cls w F [.sl (cutv (gv (qP46 a0.toNat) 0) x3.toNat) 3 1 (l37.map I), .sl (gv (qP46 a0.toNat) 2) 42 1 (u1.kids_.map (PR gP46)), ar46 gP46 qP46 A46 (a0.toNat :: H)])) 16 (by kernel_rfl) (Sc.past rfl (Sc.stay (fun _ hw => hw.sel [1, 2, 3] (by decide) rfl) (Sc.stayD (fun _ hw => hw.sel [1, 2] (by decide) rfl)))) (Sc.now (by kernel_rfl) (fun _ hw => hw.sel [1, 2, 3, 4] (by decide) rfl)) ?_)
    refine V2.zz [] (Zc.on' (Zc.fin (fun _ hw => hw)) (fun _ hw => hw.sel [0, 2, 3] (by decide) rfl)) (fun hz41 => ?_)
    refine V2.apNil (i := 17) (Nx2.of [] (by kernel_rfl) rfl hz41) rfl rfl rfl eu1 ?_
    refine V2.y (i := 18) (Nx2.of [] (by kernel_rfl) rfl hz41) rfl rfl rfl (Y.fieldP fd46_1 rfl) ?_
    refine V2.eff (i := 19) (by kernel_rfl) rfl ?_
    refine L.cutT (i := 2) (g := SR) el40 rfl ?_
    refine L.storeV (i := 0) sz43 rfl rfl (fun _ hw => (As.at_ (hw.get (i := 2) rfl)).one) rfl (Nat.le_of_ble_eq_true rfl) ?_
    refine L.nil (E.toV2 (stC [] [] (Cls w F [.sl (cutv (gv (qP46 a0.toNat) 0) x3.toNat) 3 1 (l37.map I), .sl (cutv (gv (qP46 a0.toNat) 1) x3.toNat) 9 1 (l40.map SR), .sl (gv (qP46 a0.toNat) 2) 42 1 (u1.kids_.map (PR gP46)), ar46 gP46 qP46 A46 (a0.toNat :: H)])) 19 (by kernel_rfl) (Sc.past rfl (Sc.stayD (fun _ hw => hw.sel [0, 2, 3] (by decide) rfl))) (Sc.atD (fun _ hw => hw.sel [1, 2, 3, 4] (by decide) rfl)) ?_)
    refine V2.done (by kernel_rfl) ?_
    refine E.thenN (W.seq (W.region (L.y rfl (Y.move rfl) ?_)))
    refine L.y rfl (Y.move rfl) ?_
    refine L.y rfl (Y.assign rfl) ?_
    refine L.y rfl (Y.assign rfl) ?_
    refine L.nil (E.thenN (W.ret (E.KSR ?_)))
    obtain ⟨_, c42, h⟩ := bind1S h
    obtain ⟨l43, el43, h⟩ := bind1S h
    refine E.arClose (row := Tnode.rowA gP46) (sub := Tnode.subA gP46) (e := 46) (g := gP46) (gh := qP46) (vs' := [(cutv (gv (qP46 a0.toNat) 0) x3.toNat), (cutv (gv (qP46 a0.toNat) 1) x3.toNat), (gv (qP46 a0.toNat) 2)]) (hs := H) (hs' := (a0.toNat :: H)) (m' := []) [0, 1, 2, 3, 4] el43 (by decide) rfl (fun _ => List.mem_cons) (ck_some c42) ?_
    intro q44
    refine E.to (D := Cls w F [ar46 gP46 q44 l43 H]) (fun _ hw => hw) ?_
    refine E.ret2 rfl rfl rfl (fun w1 hw => ?_)
    obtain rfl := Option.some.inj h
    exact ⟨_, _, rfl, ⟨_, rfl, rfl⟩, hw⟩
   ·
    refine L.nil (E.thenN (W.condF rfl ?_))
    refine W.skip ?_
    obtain ⟨_, c45, h⟩ := bind1S h
    refine E.to (D := Cls w F [ar46 gP46 qP46 A46 H]) (fun _ hw => hw.arShut (hs' := (a0.toNat :: H)) [0, 1, 2, 3, 4] eu1 (by decide) rfl (fun _ => List.mem_cons) (ck_some c45)) ?_
    exact E.joinJ ⟨rfl, rfl, h⟩ ⟨rfl, rfl, trivial⟩ (fun _ hw => hw)
  ·
   rintro _ _ ⟨rfl, rfl, h⟩
   rw [m26_tree_node_last_K1] at h
   refine W.seq (W.region (L.y rfl (Y.move rfl) ?_))
   obtain ⟨u4, eu4, h⟩ := bind1S h
   obtain ⟨_, c5, h⟩ := bind1S h
   refine L.to (D := Cls w F [.obj (gP46 a0.toNat) [(gv (qP46 a0.toNat) 0), (gv (qP46 a0.toNat) 1), (gv (qP46 a0.toNat) 2)] 46, .sl (gv (qP46 a0.toNat) 0) 3 1 (u4.keys_.map I), .sl (gv (qP46 a0.toNat) 1) 9 1 (u4.texts_.map SR), .sl (gv (qP46 a0.toNat) 2) 42 1 (u4.kids_.map (PR gP46)), ar46 gP46 qP46 A46 (a0.toNat :: H)]) (fun _ hw => hw.arOpen (p := 0) rfl eu4 (ck_some c5)) ?_
   refine L.y rfl (Y.apNil rfl eu4) ?_
   refine L.y rfl (Y.fieldP fd46_2 rfl) ?_
   refine L.y rfl (Y.loadP (i := 0) ag44 rfl rfl rfl) ?_
   refine L.y rfl (Y.move rfl) ?_
   refine L.m (V := fun x6 => .int .i64 x6) h rfl (Y.addM rfl rfl) (fun x6 ex6 h => ?_)
   refine L.m (V := fun _ => el (gv (qP46 a0.toNat) 2) (x6.toNat * 1)) h rfl (Y.indexM (g := (PR gP46)) (l := u4.kids_) Try.underlying44 sz42 rfl rfl (fun w hw => As.at_ (hw.get (i := 3) rfl))) (fun x7 ex7 h => ?_)
   refine L.y rfl (Y.loadE1 (u := VP gP46 x7) ag42 rfl (fun w hw => As.at_ (hw.get (i := 3) rfl)) (idx_map ex7)) ?_
   obtain ⟨_, c8, h⟩ := bind1S h
   refine L.to (D := Cls w F [ar46 gP46 qP46 A46 H]) (fun _ hw => hw.arShut (hs' := (a0.toNat :: H)) [0, 1, 2, 3, 4] eu4 (by decide) rfl (fun _ => List.mem_cons) (ck_some c8)) ?_
   obtain ⟨l9, x10, s11, e12, h⟩ := bind3S h
   refine L.doesP (A := [ar46 gP46 qP46 A46 H]) (M := []) rfl en26 rfl (fun w' hw => ih x7 A46 H gP46 qP46 w' _ e12 _ hw.lend) ?_
   rintro _ _ ⟨q13, rfl, rfl⟩
   refine L.to (D := Cls w F [ar46 gP46 q13 l9 H]) (fun _ hw => hw) ?_
   refine L.y rfl (Y.move rfl) ?_
   refine L.y rfl (Y.extract rfl rfl) ?_
   refine L.y rfl (Y.extract rfl rfl) ?_
   refine L.y rfl (Y.assign rfl) ?_
   refine L.y rfl (Y.assign rfl) ?_
   refine L.nil (E.thenN (W.seq (W.region (L.y rfl (Y.move rfl) ?_))))
   refine L.y rfl (Y.move rfl) ?_
   refine L.m (V := fun x14 => .int .i64 x14) h rfl (Y.addM rfl rfl) (fun x14 ex14 h => ?_)
   obtain ⟨l15, e16, h⟩ := bind1S h
   refine L.doesP (A := [ar46 gP46 q13 l9 H]) (M := []) rfl en27 rfl (fun w' hw => w27_tree_node_mend a0 x14 l9 H gP46 q13 w' _ e16 _ hw.lend) ?_
   rintro _ _ ⟨q17, rfl, rfl⟩
   refine L.to (D := Cls w F [ar46 gP46 q17 l15 H]) (fun _ hw => hw) ?_
   refine L.nil (E.thenN (W.seq (W.region (L.y rfl (Y.move rfl) ?_))))
   refine L.y rfl (Y.move rfl) ?_
   refine L.y rfl (Y.assign rfl) ?_
   refine L.y rfl (Y.assign rfl) ?_
   refine L.nil (E.thenN (W.ret (E.ret2 rfl rfl rfl (fun w1 hw => ?_))))
   obtain rfl := Option.some.inj h
   exact ⟨_, _, rfl, ⟨_, rfl, rfl⟩, hw⟩
theorem w26_tree_node_last (a0 : Int) (A46 : (List Tnode)) (H : (List Nat)) (gP46 : Nat → Nat) (qP46 : Nat → List Value) (w : World) (r : ((List Tnode) × Int × (List UInt8))) (h : m26_tree_node_last a0 A46 H = some r) (F : List Nat) (hc0 : Cls w F [ar46 gP46 qP46 A46 H] w) : DoesF Try.prog 26 [VP gP46 a0] F w fun u m => ∃ Q46, u = .tuple #[.int .i64 r.2.1, st r.2.2] ∧ m = [ar46 gP46 Q46 r.1 H] := w26_tree_node_lastR big a0 A46 H gP46 qP46 w r h F hc0
set_option maxRecDepth 100000 in
set_option maxHeartbeats 8000000 in
theorem w16_tree_node_dropR : ∀ (n : Nat) (a0 : Int) (a1 : Int) (A46 : (List Tnode)) (gP46 : Nat → Nat) (qP46 : Nat → List Value) (w : World) (r : (List Tnode)) (h : m16_tree_node_dropR n a0 a1 A46 = some r) (F : List Nat) (hc0 : Cls w F [ar46 gP46 qP46 A46 []] w), DoesF Try.prog 16 [VP gP46 a0, .int .i64 a1] F w fun u m => ∃ Q46, u = .tuple #[] ∧ m = [ar46 gP46 Q46 r []] := by
  intro n
  induction n with
  | zero => intro a0 a1 A46 gP46 qP46 w r h F hc0; rw [m16_tree_node_dropR] at h; cases h
  | succ n ih =>
  intro a0 a1 A46 gP46 qP46 w r h F hc0
  rw [m16_tree_node_dropR] at h
  generalize m16_tree_node_dropR n = rec at h ih
  rw [m16_tree_node_dropB] at h
  refine body (n := 78) Try.func16 rfl rfl rfl hc0 ?_
  refine W.seqJ (fun gs D => ∃ (gx1 : Int) (gb2 : Bool), gs = [(0, VP gP46 a0), (1, .int .i64 a1), (4, .int .i64 gx1), (5, .bool gb2)] ∧ D = Cls w F [ar46 gP46 qP46 A46 []] ∧ m16_tree_node_drop_K1 A46 a0 rec a1 gx1 gb2 = some r) ?_ ?_
  ·
   refine W.region (L.y rfl (Y.move rfl) ?_)
   refine L.y rfl (Y.move rfl) ?_
   obtain ⟨x471, b472, e473, h⟩ := bind2S h
   refine L.doesP (A := [ar46 gP46 qP46 A46 []]) (M := []) rfl en15 rfl (fun w' hw => w15_tree_node_find a0 a1 A46 gP46 qP46 w' _ e473 _ hw.lend) ?_
   rintro _ _ ⟨rfl, rfl⟩
   refine L.to (D := Cls w F [ar46 gP46 qP46 A46 []]) (fun _ hw => hw) ?_
   refine L.y rfl (Y.move rfl) ?_
   refine L.y rfl (Y.extract rfl rfl) ?_
   refine L.iteB h rfl (Y.extract rfl rfl) (fun c474 h => ?_) (fun c474 h => ?_)
   ·
    refine L.y rfl (Y.assign rfl) ?_
    refine L.y rfl (Y.assign rfl) ?_
    exact L.nil (E.joinJ ⟨x471, true, rfl, rfl, h⟩ ⟨rfl, rfl, rfl, rfl, trivial⟩ (fun _ hw => hw))
   ·
    refine L.y rfl (Y.assign rfl) ?_
    refine L.y rfl (Y.assign rfl) ?_
    exact L.nil (E.joinJ ⟨x471, false, rfl, rfl, h⟩ ⟨rfl, rfl, rfl, rfl, trivial⟩ (fun _ hw => hw))
  ·
   rintro _ _ ⟨gx1, gb2, rfl, rfl, h⟩
   rw [m16_tree_node_drop_K1] at h
   rcases gb2 with _ | _
   ·
    replace h := iteF h
    refine W.seq (W.block (W.seq (W.region (L.y rfl (Y.move rfl) ?_))))
    obtain ⟨u1, eu1, h⟩ := bind1S h
    refine L.to (D := Cls w F [.obj (gP46 a0.toNat) [(gv (qP46 a0.toNat) 0), (gv (qP46 a0.toNat) 1), (gv (qP46 a0.toNat) 2)] 46, .sl (gv (qP46 a0.toNat) 0) 3 1 (u1.keys_.map I), .sl (gv (qP46 a0.toNat) 1) 9 1 (u1.texts_.map SR), .sl (gv (qP46 a0.toNat) 2) 42 1 (u1.kids_.map (PR gP46)), ar46 gP46 qP46 A46 (a0.toNat :: [])]) (fun _ hw => hw.arOpen (p := 0) rfl eu1 List.not_mem_nil) ?_
    refine L.y rfl (Y.apNil rfl eu1) ?_
    refine L.y rfl (Y.fieldP fd46_2 rfl) ?_
    refine L.y rfl (Y.loadP (i := 0) ag44 rfl rfl rfl) ?_
    refine L.y rfl (Y.lenM (g := (PR gP46)) (l := u1.kids_) Try.underlying44 rfl (fun w hw => As.at_ (hw.get (i := 3) rfl))) ?_
    refine L.ite h rfl (Y.eql rfl rfl) (fun c2 h => ?_) (fun c2 h => ?_)
    ·
     refine L.y rfl (Y.assign rfl) ?_
     refine L.nil (E.thenN (W.condT rfl ?_))
     refine W.seq (W.drawn2 (k := 24) (stC [[9, 17, 20], [17, 20], [20]] [Cls w F [.obj (gP46 a0.toNat) [(gv (qP46 a0.toNat) 0), (gv (qP46 a0.toNat) 1), (gv (qP46 a0.toNat) 2)] 46, .sl (gv (qP46 a0.toNat) 0) 3 1 (u1.keys_.map I), .sl (gv (qP46 a0.toNat) 1) 9 1 (u1.texts_.map SR), .sl (gv (qP46 a0.toNat) 2) 42 1 (u1.kids_.map (PR gP46)), ar46 gP46 qP46 A46 (a0.toNat :: [])], Cls w F [.obj (gP46 a0.toNat) [(gv (qP46 a0.toNat) 0), (gv (qP46 a0.toNat) 1), (gv (qP46 a0.toNat) 2)] 46, .sl (gv (qP46 a0.toNat) 1) 9 1 (u1.texts_.map SR), .sl (gv (qP46 a0.toNat) 2) 42 1 (u1.kids_.map (PR gP46)), ar46 gP46 qP46 A46 (a0.toNat :: [])], Cls w F [.obj (gP46 a0.toNat) [(gv (qP46 a0.toNat) 0), (gv (qP46 a0.toNat) 1), (gv (qP46 a0.toNat) 2)] 46, .sl (gv (qP46 a0.toNat) 2) 42 1 (u1.kids_.map (PR gP46)), ar46 gP46 qP46 A46 (a0.toNat :: [])]] (Cls w F [.sl (gv (qP46 a0.toNat) 2) 42 1 (u1.kids_.map (PR gP46)), ar46 gP46 qP46 A46 (a0.toNat :: [])])) rfl mixed (fun _ hw => hw.drew) (Sc.now (by kernel_rfl) (fun _ hw => hw)) ?_)
     refine V2.zz [] (Zc.on' (Zc.on' (Zc.on' (Zc.fin (fun _ hw => hw)) (fun _ hw => hw.sel [1, 2] (by decide) rfl)) (fun _ hw => hw.sel [2, 3] (by decide) rfl)) (fun _ hw => hw.sel [3, 4] (by decide) rfl)) (fun hz23 => ?_)
     refine V2.y (i := 0) (Nx2.of [] (by kernel_rfl) rfl hz23) rfl rfl rfl (Y.move rfl) ?_
     refine V2.y (i := 1) (Nx2.of [] (by kernel_rfl) rfl hz23) rfl rfl rfl (Y.move rfl) ?_
     refine V2.y (i := 2) (Nx2.of [] (by kernel_rfl) rfl hz23) rfl rfl rfl (Y.move rfl) ?_
     refine V2.apNil (i := 3) (Nx2.of [] (by kernel_rfl) rfl hz23) rfl rfl rfl eu1 ?_
     refine V2.y (i := 4) (Nx2.of [] (by kernel_rfl) rfl hz23) rfl rfl rfl (Y.fieldP fd46_0 rfl) ?_
     refine V2.zz [20] (Zc.on' (Zc.on' (Zc.at1 (fun _ hw => hw)) (fun _ hw => hw.sel [0, 2, 3] (by decide) rfl)) (fun _ hw => hw.sel [0, 3, 4] (by decide) rfl)) (fun hz24 => ?_)
     refine V2.y (i := 5) (Nx2.of [20] (by kernel_rfl) rfl hz24) rfl rfl rfl (Y.loadP (i := 0) ag25 rfl rfl rfl) ?_
     refine V2.y (i := 6) (Nx2.of [] (by kernel_rfl) rfl hz23) rfl rfl rfl (Y.move rfl) ?_
     refine V2.y (i := 7) (Nx2.of [] (by kernel_rfl) rfl hz23) rfl rfl rfl (Y.move rfl) ?_
     refine V2.m (i := 8) (V' := fun x25 => .int .i64 x25) h (Nx2.of [] (by kernel_rfl) rfl hz23) rfl rfl rfl (Y.addM rfl rfl) (fun x25 ex25 h => ?_)
     refine V2.y (i := 10) (Nx2.of [] (by kernel_rfl) rfl hz23) rfl rfl rfl (Y.move rfl) ?_
     refine V2.apNil (i := 11) (Nx2.of [] (by kernel_rfl) rfl hz23) rfl rfl rfl eu1 ?_
     refine V2.y (i := 12) (Nx2.of [] (by kernel_rfl) rfl hz23) rfl rfl rfl (Y.fieldP fd46_1 rfl) ?_
     refine V2.y (i := 13) (Nx2.of [20] (by kernel_rfl) rfl hz24) rfl rfl rfl (Y.loadP (i := 0) ag43 rfl rfl rfl) ?_
     refine V2.y (i := 14) (Nx2.of [] (by kernel_rfl) rfl hz23) rfl rfl rfl (Y.move rfl) ?_
     refine V2.y (i := 15) (Nx2.of [] (by kernel_rfl) rfl hz23) rfl rfl rfl (Y.move rfl) ?_
     refine V2.m (i := 16) (V' := fun x26 => .int .i64 x26) h (Nx2.of [] (by kernel_rfl) rfl hz23) rfl rfl rfl (Y.addM rfl rfl) (fun x26 ex26 h => ?_)
     refine V2.eff (i := 9) (by kernel_rfl) rfl ?_
     refine L.delRD (i := 1) (l := u1.keys_) (a := gx1) (b := x25) h wDelR8 rfl en8 rfl rfl rfl rfl ?_
     intro v28 l27 el27 h
     refine L.nil (E.toV2 (stC [[17, 20], [20]] [Cls w F [.obj (gP46 a0.toNat) [(gv (qP46 a0.toNat) 0), (gv (qP46 a0.toNat) 1), (gv (qP46 a0.toNat) 2)] 46, .sl v28 3 1 (l27.map I), .sl (gv (qP46 a0.toNat) 1) 9 1 (u1.texts_.map SR), .sl (gv (qP46 a0.toNat) 2) 42 1 (u1.kids_.map (PR gP46)), ar46 gP46 qP46 A46 (a0.toNat :: [])], Cls w F [.obj (gP46 a0.toNat) [(gv (qP46 a0.toNat) 0), (gv (qP46 a0.toNat) 1), (gv (qP46 a0.toNat) 2)] 46, .sl v28 3 1 (l27.map I), .sl (gv (qP46 a0.toNat) 2) 42 1 (u1.kids_.map (PR gP46)), ar46 gP46 qP46 A46 (a0.toNat :: [])]] (Cls w F [.sl v28 3 1 (l27.map I), .sl (gv (qP46 a0.toNat) 2) 42 1 (u1.kids_.map (PR gP46)), ar46 gP46 qP46 A46 (a0.toNat :: [])])) 9 (by kernel_rfl) (Sc.past rfl (Sc.stay (fun _ hw => hw.sel [0, 2, 3, 4] (by decide) rfl) (Sc.stay (fun _ hw => hw.sel [0, 2, 3] (by decide) rfl) (Sc.stayD (fun _ hw => hw.sel [1, 2] (by decide) rfl))))) (Sc.now (by kernel_rfl) (fun _ hw => hw)) ?_)
     refine V2.eff (i := 17) (by kernel_rfl) rfl ?_
     refine L.delRD (i := 2) (l := u1.texts_) (a := gx1) (b := x26) h wDelR25 rfl en25 rfl rfl rfl rfl ?_
     intro v30 l29 el29 h
     refine L.nil (E.toV2 (stC [[20]] [Cls w F [.obj (gP46 a0.toNat) [(gv (qP46 a0.toNat) 0), (gv (qP46 a0.toNat) 1), (gv (qP46 a0.toNat) 2)] 46, .sl v28 3 1 (l27.map I), .sl v30 9 1 (l29.map SR), .sl (gv (qP46 a0.toNat) 2) 42 1 (u1.kids_.map (PR gP46)), ar46 gP46 qP46 A46 (a0.toNat :: [])]] (Cls w F [.sl v28 3 1 (l27.map I), .sl v30 9 1 (l29.map SR), .sl (gv (qP46 a0.toNat) 2) 42 1 (u1.kids_.map (PR gP46)), ar46 gP46 qP46 A46 (a0.toNat :: [])])) 17 (by kernel_rfl) (Sc.past rfl (Sc.stay (fun _ hw => hw.sel [0, 1, 3, 4] (by decide) rfl) (Sc.stayD (fun _ hw => hw.sel [0, 2, 3] (by decide) rfl)))) (Sc.now (by kernel_rfl) (fun _ hw => hw)) ?_)
     refine V2.zz [] (Zc.on' (Zc.fin (fun _ hw => hw)) (fun _ hw => hw.sel [1, 2, 3, 4] (by decide) rfl)) (fun hz31 => ?_)
     refine V2.apNil (i := 18) (Nx2.of [] (by kernel_rfl) rfl hz31) rfl rfl rfl eu1 ?_
     refine V2.y (i := 19) (Nx2.of [] (by kernel_rfl) rfl hz31) rfl rfl rfl (Y.fieldP fd46_0 rfl) ?_
     refine V2.eff (i := 20) (by kernel_rfl) rfl ?_
     refine L.storeV (i := 0) sz25 rfl rfl (fun _ hw => (As.at_ (hw.get (i := 1) rfl)).one) rfl (Nat.le_of_ble_eq_true rfl) ?_
     refine L.nil (E.toV2 (stC [] [] (Cls w F [.sl v28 3 1 (l27.map I), .sl v30 9 1 (l29.map SR), .sl (gv (qP46 a0.toNat) 2) 42 1 (u1.kids_.map (PR gP46)), ar46 gP46 qP46 A46 (a0.toNat :: [])])) 20 (by kernel_rfl) (Sc.past rfl (Sc.stayD (fun _ hw => hw))) (Sc.atD (fun _ hw => hw.sel [1, 2, 3, 4] (by decide) rfl)) ?_)
     refine V2.zz [] (Zc.fin (fun _ hw => hw)) (fun hz32 => ?_)
     refine V2.apNil (i := 21) (Nx2.of [] (by kernel_rfl) rfl hz32) rfl rfl rfl eu1 ?_
     refine V2.y (i := 22) (Nx2.of [] (by kernel_rfl) rfl hz32) rfl rfl rfl (Y.fieldP fd46_1 rfl) ?_
     refine V2.eff (i := 23) (by kernel_rfl) rfl ?_
     refine L.storeV (i := 0) sz43 rfl rfl (fun _ hw => (As.at_ (hw.get (i := 2) rfl)).one) rfl (Nat.le_of_ble_eq_true rfl) ?_
     refine L.nil (E.toV2 (stC [] [] (Cls w F [.sl v28 3 1 (l27.map I), .sl v30 9 1 (l29.map SR), .sl (gv (qP46 a0.toNat) 2) 42 1 (u1.kids_.map (PR gP46)), ar46 gP46 qP46 A46 (a0.toNat :: [])])) 23 (by kernel_rfl) (Sc.stayD (fun _ hw => hw)) (Sc.atD (fun _ hw => hw.sel [1, 2, 3, 4] (by decide) rfl)) ?_)
     refine V2.done (by kernel_rfl) ?_
     refine E.thenN (W.ret (E.blockR (E.thenR ?_)))
     obtain ⟨l33, el33, h⟩ := bind1S h
     refine E.arClose (row := Tnode.rowA gP46) (sub := Tnode.subA gP46) (e := 46) (g := gP46) (gh := qP46) (vs' := [v28, v30, (gv (qP46 a0.toNat) 2)]) (hs := []) (hs' := (a0.toNat :: [])) (m' := []) [0, 1, 2, 3, 4] el33 (by decide) rfl (fun _ => List.mem_cons) List.not_mem_nil ?_
     intro q34
     refine E.to (D := Cls w F [ar46 gP46 q34 l33 []]) (fun _ hw => hw) ?_
     refine E.ret0 rfl (fun w1 hw => ?_)
     obtain rfl := Option.some.inj h
     exact ⟨_, _, rfl, ⟨_, rfl, rfl⟩, hw⟩
    ·
     refine L.y rfl (Y.assign rfl) ?_
     refine L.nil (E.thenN (W.condF rfl ?_))
     refine W.seq (W.region (L.y rfl (Y.move rfl) ?_))
     refine L.y rfl (Y.assign rfl) ?_
     refine L.nil (E.thenN (W.condF rfl ?_))
     refine W.region (L.y rfl (Y.move rfl) ?_)
     refine L.y rfl (Y.apNil rfl eu1) ?_
     refine L.y rfl (Y.fieldP fd46_2 rfl) ?_
     refine L.y rfl (Y.loadP (i := 0) ag44 rfl rfl rfl) ?_
     refine L.y rfl (Y.move rfl) ?_
     refine L.m (V := fun _ => el (gv (qP46 a0.toNat) 2) (gx1.toNat * 1)) h rfl (Y.indexM (g := (PR gP46)) (l := u1.kids_) Try.underlying44 sz42 rfl rfl (fun w hw => As.at_ (hw.get (i := 3) rfl))) (fun x35 ex35 h => ?_)
     refine L.y rfl (Y.loadE1 (u := VP gP46 x35) ag42 rfl (fun w hw => As.at_ (hw.get (i := 3) rfl)) (idx_map ex35)) ?_
     refine L.y rfl (Y.move rfl) ?_
     refine L.to (D := Cls w F [ar46 gP46 qP46 A46 []]) (fun _ hw => hw.arShut (hs' := (a0.toNat :: [])) [0, 1, 2, 3, 4] eu1 (by decide) rfl (fun _ => List.mem_cons) List.not_mem_nil) ?_
     obtain ⟨l36, e37, h⟩ := bind1S h
     refine L.doesP (A := [ar46 gP46 qP46 A46 []]) (M := []) rfl en16 rfl (fun w' hw => ih x35 a1 A46 gP46 qP46 w' _ e37 _ hw.lend) ?_
     rintro _ _ ⟨q38, rfl, rfl⟩
     refine L.to (D := Cls w F [ar46 gP46 q38 l36 []]) (fun _ hw => hw) ?_
     refine L.nil (E.blockN (E.thenN (W.region (L.y rfl (Y.move rfl) ?_))))
     refine L.y rfl (Y.move rfl) ?_
     obtain ⟨l39, e40, h⟩ := bind1S h
     refine L.doesP (A := [ar46 gP46 q38 l36 []]) (M := []) rfl en27 rfl (fun w' hw => w27_tree_node_mend a0 gx1 l36 [] gP46 q38 w' _ e40 _ hw.lend) ?_
     rintro _ _ ⟨q41, rfl, rfl⟩
     refine L.to (D := Cls w F [ar46 gP46 q41 l39 []]) (fun _ hw => hw) ?_
     refine L.nil (E.end0 rfl (fun w1 hw => ?_))
     obtain rfl := Option.some.inj h
     exact ⟨_, _, rfl, ⟨_, rfl, rfl⟩, hw⟩
   ·
    replace h := iteT h
    refine W.seqJ (fun gs D => ∃ (gl3 : (List Tnode)) (gq4 : Nat → List Value), gs = [(0, VP gP46 a0), (4, .int .i64 gx1)] ∧ D = Cls w F [ar46 gP46 gq4 gl3 []] ∧ m16_tree_node_drop_K2 a0 gx1 gl3 = some r) ?_ ?_
    ·
     refine W.block (W.seqJ (fun gs D => ∃ (gb5 : Bool), gs = [(0, VP gP46 a0), (1, .int .i64 a1), (4, .int .i64 gx1), (5, .bool true), (21, .bool gb5)] ∧ D = Cls w F [ar46 gP46 qP46 A46 []] ∧ m16_tree_node_drop_K3 A46 a0 gx1 gb5 = some r) ?_ ?_)
     ·
      refine W.region (L.y rfl (Y.move rfl) ?_)
      obtain ⟨u469, eu469, h⟩ := bind1S h
      refine L.to (D := Cls w F [.obj (gP46 a0.toNat) [(gv (qP46 a0.toNat) 0), (gv (qP46 a0.toNat) 1), (gv (qP46 a0.toNat) 2)] 46, .sl (gv (qP46 a0.toNat) 0) 3 1 (u469.keys_.map I), .sl (gv (qP46 a0.toNat) 1) 9 1 (u469.texts_.map SR), .sl (gv (qP46 a0.toNat) 2) 42 1 (u469.kids_.map (PR gP46)), ar46 gP46 qP46 A46 (a0.toNat :: [])]) (fun _ hw => hw.arOpen (p := 0) rfl eu469 List.not_mem_nil) ?_
      refine L.y rfl (Y.apNil rfl eu469) ?_
      refine L.y rfl (Y.fieldP fd46_2 rfl) ?_
      refine L.y rfl (Y.loadP (i := 0) ag44 rfl rfl rfl) ?_
      refine L.y rfl (Y.lenM (g := (PR gP46)) (l := u469.kids_) Try.underlying44 rfl (fun w hw => As.at_ (hw.get (i := 3) rfl))) ?_
      refine L.ite h rfl (Y.eql rfl rfl) (fun c470 h => ?_) (fun c470 h => ?_)
      ·
       refine L.y rfl (Y.assign rfl) ?_
       refine L.nil (E.to (D := Cls w F [ar46 gP46 qP46 A46 []]) (fun _ hw => hw.arShut (hs' := (a0.toNat :: [])) [0, 1, 2, 3, 4] eu469 (by decide) rfl (fun _ => List.mem_cons) List.not_mem_nil) ?_)
       exact E.joinJ ⟨true, rfl, rfl, h⟩ ⟨rfl, rfl, rfl, rfl, rfl, trivial⟩ (fun _ hw => hw)
      ·
       refine L.y rfl (Y.assign rfl) ?_
       refine L.nil (E.to (D := Cls w F [ar46 gP46 qP46 A46 []]) (fun _ hw => hw.arShut (hs' := (a0.toNat :: [])) [0, 1, 2, 3, 4] eu469 (by decide) rfl (fun _ => List.mem_cons) List.not_mem_nil) ?_)
       exact E.joinJ ⟨false, rfl, rfl, h⟩ ⟨rfl, rfl, rfl, rfl, rfl, trivial⟩ (fun _ hw => hw)
     ·
      rintro _ _ ⟨gb5, rfl, rfl, h⟩
      rw [m16_tree_node_drop_K3] at h
      rcases gb5 with _ | _
      ·
       replace h := iteF h
       refine W.condF rfl ?_
       refine W.seq (W.region (L.y rfl (Y.move rfl) ?_))
       refine L.y rfl (Y.assign rfl) ?_
       refine L.nil (E.thenN (W.condT rfl ?_))
       obtain ⟨u45, eu45, h⟩ := bind1S h
       refine W.to (D := Cls w F [.obj (gP46 a0.toNat) [(gv (qP46 a0.toNat) 0), (gv (qP46 a0.toNat) 1), (gv (qP46 a0.toNat) 2)] 46, .sl (gv (qP46 a0.toNat) 0) 3 1 (u45.keys_.map I), .sl (gv (qP46 a0.toNat) 1) 9 1 (u45.texts_.map SR), .sl (gv (qP46 a0.toNat) 2) 42 1 (u45.kids_.map (PR gP46)), ar46 gP46 qP46 A46 (a0.toNat :: [])]) (fun _ hw => hw.arOpen (p := 0) rfl eu45 List.not_mem_nil) ?_
       refine W.drawn2 (k := 25) (stC [[17, 22, 24], [22, 24], [24]] [Cls w F [.obj (gP46 a0.toNat) [(gv (qP46 a0.toNat) 0), (gv (qP46 a0.toNat) 1), (gv (qP46 a0.toNat) 2)] 46, .sl (gv (qP46 a0.toNat) 0) 3 1 (u45.keys_.map I), .sl (gv (qP46 a0.toNat) 1) 9 1 (u45.texts_.map SR), .sl (gv (qP46 a0.toNat) 2) 42 1 (u45.kids_.map (PR gP46)), ar46 gP46 qP46 A46 (a0.toNat :: [])], Cls w F [.obj (gP46 a0.toNat) [(gv (qP46 a0.toNat) 0), (gv (qP46 a0.toNat) 1), (gv (qP46 a0.toNat) 2)] 46, .sl (gv (qP46 a0.toNat) 0) 3 1 (u45.keys_.map I), .sl (gv (qP46 a0.toNat) 1) 9 1 (u45.texts_.map SR), .sl (gv (qP46 a0.toNat) 2) 42 1 (u45.kids_.map (PR gP46))], Cls w F [.obj (gP46 a0.toNat) [(gv (qP46 a0.toNat) 0), (gv (qP46 a0.toNat) 1), (gv (qP46 a0.toNat) 2)] 46, .sl (gv (qP46 a0.toNat) 1) 9 1 (u45.texts_.map SR), .sl (gv (qP46 a0.toNat) 2) 42 1 (u45.kids_.map (PR gP46))]] (Cls w F [.obj (gP46 a0.toNat) [(gv (qP46 a0.toNat) 0), (gv (qP46 a0.toNat) 1), (gv (qP46 a0.toNat) 2)] 46, .sl (gv (qP46 a0.toNat) 2) 42 1 (u45.kids_.map (PR gP46))])) rfl mixed (fun _ hw => hw.drew) (Sc.now (by kernel_rfl) (fun _ hw => hw)) ?_
       refine V2.zz [] (Zc.on' (Zc.on' (Zc.on' (Zc.fin (fun _ hw => hw)) (fun _ hw => hw.sel [0, 2] (by decide) rfl)) (fun _ hw => hw.sel [0, 3] (by decide) rfl)) (fun _ hw => hw.sel [0, 3] (by decide) rfl)) (fun hz93 => ?_)
       refine V2.y (i := 0) (Nx2.of [] (by kernel_rfl) rfl hz93) rfl rfl rfl (Y.move rfl) ?_
       refine V2.y (i := 4) (Nx2.of [] (by kernel_rfl) rfl hz93) rfl rfl rfl (Y.move rfl) ?_
       refine V2.y (i := 5) (Nx2.of [] (by kernel_rfl) rfl hz93) rfl rfl rfl (Y.move rfl) ?_
       refine V2.y (i := 9) (Nx2.of [] (by kernel_rfl) rfl hz93) rfl rfl rfl (Y.move rfl) ?_
       refine V2.y (i := 10) (Nx2.of [] (by kernel_rfl) rfl hz93) rfl rfl rfl (Y.move rfl) ?_
       refine V2.y (i := 14) (Nx2.of [] (by kernel_rfl) rfl hz93) rfl rfl rfl (Y.move rfl) ?_
       refine V2.eff3 (i1 := 1) (i2 := 6) (i3 := 11) (by kernel_rfl) rfl rfl rfl ?_ ?_ ?_
       ·
        refine L.y rfl (Y.apNil rfl eu45) ?_
        refine L.nil (E.toV2 (stC [[17, 22, 24], [22, 24], [24]] [Cls w F [.obj (gP46 a0.toNat) [(gv (qP46 a0.toNat) 0), (gv (qP46 a0.toNat) 1), (gv (qP46 a0.toNat) 2)] 46, .sl (gv (qP46 a0.toNat) 0) 3 1 (u45.keys_.map I), .sl (gv (qP46 a0.toNat) 1) 9 1 (u45.texts_.map SR), .sl (gv (qP46 a0.toNat) 2) 42 1 (u45.kids_.map (PR gP46)), ar46 gP46 qP46 A46 (a0.toNat :: [])], Cls w F [.obj (gP46 a0.toNat) [(gv (qP46 a0.toNat) 0), (gv (qP46 a0.toNat) 1), (gv (qP46 a0.toNat) 2)] 46, .sl (gv (qP46 a0.toNat) 0) 3 1 (u45.keys_.map I), .sl (gv (qP46 a0.toNat) 1) 9 1 (u45.texts_.map SR), .sl (gv (qP46 a0.toNat) 2) 42 1 (u45.kids_.map (PR gP46))], Cls w F [.obj (gP46 a0.toNat) [(gv (qP46 a0.toNat) 0), (gv (qP46 a0.toNat) 1), (gv (qP46 a0.toNat) 2)] 46, .sl (gv (qP46 a0.toNat) 1) 9 1 (u45.texts_.map SR), .sl (gv (qP46 a0.toNat) 2) 42 1 (u45.kids_.map (PR gP46))]] (Cls w F [.obj (gP46 a0.toNat) [(gv (qP46 a0.toNat) 0), (gv (qP46 a0.toNat) 1), (gv (qP46 a0.toNat) 2)] 46, .sl (gv (qP46 a0.toNat) 2) 42 1 (u45.kids_.map (PR gP46))])) 1 (by kernel_rfl) (Sc.stay (fun _ hw => hw) (Sc.stay (fun _ hw => hw) (Sc.stay (fun _ hw => hw) (Sc.stayD (fun _ hw => hw))))) (Sc.now (by kernel_rfl) (fun _ hw => hw)) ?_)
        refine V2.zz [] (Zc.on' (Zc.on' (Zc.on' (Zc.fin (fun _ hw => hw)) (fun _ hw => hw.sel [0, 2] (by decide) rfl)) (fun _ hw => hw.sel [0, 3] (by decide) rfl)) (fun _ hw => hw.sel [0, 3] (by decide) rfl)) (fun hz114 => ?_)
        refine V2.y (i := 2) (Nx2.of [] (by kernel_rfl) rfl hz114) rfl rfl rfl (Y.fieldP fd46_0 rfl) ?_
        refine V2.y (i := 3) (Nx2.of [] (by kernel_rfl) rfl hz114) rfl rfl rfl (Y.loadP (i := 0) ag25 rfl rfl rfl) ?_
        refine V2.eff2 (i1 := 6) (i2 := 11) (by kernel_rfl) rfl rfl ?_ ?_
        ·
         refine L.y rfl (Y.apNil rfl eu45) ?_
         refine L.nil (E.toV2 (stC [[17, 22, 24], [22, 24], [24]] [Cls w F [.obj (gP46 a0.toNat) [(gv (qP46 a0.toNat) 0), (gv (qP46 a0.toNat) 1), (gv (qP46 a0.toNat) 2)] 46, .sl (gv (qP46 a0.toNat) 0) 3 1 (u45.keys_.map I), .sl (gv (qP46 a0.toNat) 1) 9 1 (u45.texts_.map SR), .sl (gv (qP46 a0.toNat) 2) 42 1 (u45.kids_.map (PR gP46)), ar46 gP46 qP46 A46 (a0.toNat :: [])], Cls w F [.obj (gP46 a0.toNat) [(gv (qP46 a0.toNat) 0), (gv (qP46 a0.toNat) 1), (gv (qP46 a0.toNat) 2)] 46, .sl (gv (qP46 a0.toNat) 0) 3 1 (u45.keys_.map I), .sl (gv (qP46 a0.toNat) 1) 9 1 (u45.texts_.map SR), .sl (gv (qP46 a0.toNat) 2) 42 1 (u45.kids_.map (PR gP46))], Cls w F [.obj (gP46 a0.toNat) [(gv (qP46 a0.toNat) 0), (gv (qP46 a0.toNat) 1), (gv (qP46 a0.toNat) 2)] 46, .sl (gv (qP46 a0.toNat) 1) 9 1 (u45.texts_.map SR), .sl (gv (qP46 a0.toNat) 2) 42 1 (u45.kids_.map (PR gP46))]] (Cls w F [.obj (gP46 a0.toNat) [(gv (qP46 a0.toNat) 0), (gv (qP46 a0.toNat) 1), (gv (qP46 a0.toNat) 2)] 46, .sl (gv (qP46 a0.toNat) 2) 42 1 (u45.kids_.map (PR gP46))])) 6 (by kernel_rfl) (Sc.stay (fun _ hw => hw) (Sc.stay (fun _ hw => hw) (Sc.stay (fun _ hw => hw) (Sc.stayD (fun _ hw => hw))))) (Sc.now (by kernel_rfl) (fun _ hw => hw)) ?_)
         refine V2.zz [] (Zc.on' (Zc.on' (Zc.on' (Zc.fin (fun _ hw => hw)) (fun _ hw => hw.sel [0, 2] (by decide) rfl)) (fun _ hw => hw.sel [0, 3] (by decide) rfl)) (fun _ hw => hw.sel [0, 3] (by decide) rfl)) (fun hz118 => ?_)
         refine V2.y (i := 7) (Nx2.of [] (by kernel_rfl) rfl hz118) rfl rfl rfl (Y.fieldP fd46_1 rfl) ?_
         refine V2.y (i := 8) (Nx2.of [] (by kernel_rfl) rfl hz118) rfl rfl rfl (Y.loadP (i := 0) ag43 rfl rfl rfl) ?_
         refine V2.eff (i := 11) (by kernel_rfl) rfl ?_
         refine L.y rfl (Y.apNil rfl eu45) ?_
         refine L.nil (E.toV2 (stC [[17, 22, 24], [22, 24], [24]] [Cls w F [.obj (gP46 a0.toNat) [(gv (qP46 a0.toNat) 0), (gv (qP46 a0.toNat) 1), (gv (qP46 a0.toNat) 2)] 46, .sl (gv (qP46 a0.toNat) 0) 3 1 (u45.keys_.map I), .sl (gv (qP46 a0.toNat) 1) 9 1 (u45.texts_.map SR), .sl (gv (qP46 a0.toNat) 2) 42 1 (u45.kids_.map (PR gP46)), ar46 gP46 qP46 A46 (a0.toNat :: [])], Cls w F [.obj (gP46 a0.toNat) [(gv (qP46 a0.toNat) 0), (gv (qP46 a0.toNat) 1), (gv (qP46 a0.toNat) 2)] 46, .sl (gv (qP46 a0.toNat) 0) 3 1 (u45.keys_.map I), .sl (gv (qP46 a0.toNat) 1) 9 1 (u45.texts_.map SR), .sl (gv (qP46 a0.toNat) 2) 42 1 (u45.kids_.map (PR gP46))], Cls w F [.obj (gP46 a0.toNat) [(gv (qP46 a0.toNat) 0), (gv (qP46 a0.toNat) 1), (gv (qP46 a0.toNat) 2)] 46, .sl (gv (qP46 a0.toNat) 1) 9 1 (u45.texts_.map SR), .sl (gv (qP46 a0.toNat) 2) 42 1 (u45.kids_.map (PR gP46))]] (Cls w F [.obj (gP46 a0.toNat) [(gv (qP46 a0.toNat) 0), (gv (qP46 a0.toNat) 1), (gv (qP46 a0.toNat) 2)] 46, .sl (gv (qP46 a0.toNat) 2) 42 1 (u45.kids_.map (PR gP46))])) 11 (by kernel_rfl) (Sc.stay (fun _ hw => hw) (Sc.stay (fun _ hw => hw) (Sc.stay (fun _ hw => hw) (Sc.stayD (fun _ hw => hw))))) (Sc.now (by kernel_rfl) (fun _ hw => hw)) ?_)
         refine V2.zz [] (Zc.on' (Zc.on' (Zc.on' (Zc.fin (fun _ hw => hw)) (fun _ hw => hw.sel [0, 2] (by decide) rfl)) (fun _ hw => hw.sel [0, 3] (by decide) rfl)) (fun _ hw => hw.sel [0, 3] (by decide) rfl)) (fun hz121 => ?_)
         refine V2.y (i := 12) (Nx2.of [] (by kernel_rfl) rfl hz121) rfl rfl rfl (Y.fieldP fd46_2 rfl) ?_
         refine V2.y (i := 13) (Nx2.of [] (by kernel_rfl) rfl hz121) rfl rfl rfl (Y.loadP (i := 0) ag44 rfl rfl rfl) ?_
         refine V2.m (i := 15) (V' := fun _ => el (gv (qP46 a0.toNat) 2) (gx1.toNat * 1)) h (Nx2.of [] (by kernel_rfl) rfl hz121) rfl rfl rfl (Y.indexM (g := (PR gP46)) (l := u45.kids_) Try.underlying44 sz42 rfl rfl (fun w hw => As.at_ (hw.get (i := 1) rfl))) (fun x122 ex122 h => ?_)
         refine V2.y (i := 16) (Nx2.of [] (by kernel_rfl) rfl hz121) rfl rfl rfl (Y.loadE1 (u := VP gP46 x122) ag42 rfl (fun w hw => As.at_ (hw.get (i := 1) rfl)) (idx_map ex122)) ?_
         refine V2.eff (i := 17) (by kernel_rfl) rfl ?_
         refine L.to (D := Cls w F [ar46 gP46 qP46 A46 (a0.toNat :: []), .obj (gP46 a0.toNat) [(gv (qP46 a0.toNat) 0), (gv (qP46 a0.toNat) 1), (gv (qP46 a0.toNat) 2)] 46, .sl (gv (qP46 a0.toNat) 0) 3 1 (u45.keys_.map I), .sl (gv (qP46 a0.toNat) 1) 9 1 (u45.texts_.map SR), .sl (gv (qP46 a0.toNat) 2) 42 1 (u45.kids_.map (PR gP46))]) (fun _ hw => hw.sel [4, 0, 1, 2, 3] (by decide) rfl) ?_
         obtain ⟨l123, x124, s125, e126, h⟩ := bind3S h
         refine L.doesP (A := [ar46 gP46 qP46 A46 (a0.toNat :: [])]) (M := [.obj (gP46 a0.toNat) [(gv (qP46 a0.toNat) 0), (gv (qP46 a0.toNat) 1), (gv (qP46 a0.toNat) 2)] 46, .sl (gv (qP46 a0.toNat) 0) 3 1 (u45.keys_.map I), .sl (gv (qP46 a0.toNat) 1) 9 1 (u45.texts_.map SR), .sl (gv (qP46 a0.toNat) 2) 42 1 (u45.kids_.map (PR gP46))]) rfl en26 rfl (fun w' hw => w26_tree_node_last x122 A46 (a0.toNat :: []) gP46 qP46 w' _ e126 _ hw.lend) ?_
         rintro _ _ ⟨q127, rfl, rfl⟩
         refine L.to (D := Cls w F [ar46 gP46 q127 l123 (a0.toNat :: []), .obj (gP46 a0.toNat) [(gv (qP46 a0.toNat) 0), (gv (qP46 a0.toNat) 1), (gv (qP46 a0.toNat) 2)] 46, .sl (gv (qP46 a0.toNat) 0) 3 1 (u45.keys_.map I), .sl (gv (qP46 a0.toNat) 1) 9 1 (u45.texts_.map SR), .sl (gv (qP46 a0.toNat) 2) 42 1 (u45.kids_.map (PR gP46))]) (fun _ hw => hw) ?_
         refine L.nil (E.toV2 (stC [[22, 24], [24]] [Cls w F [.obj (gP46 a0.toNat) [(gv (qP46 a0.toNat) 0), (gv (qP46 a0.toNat) 1), (gv (qP46 a0.toNat) 2)] 46, .sl (gv (qP46 a0.toNat) 0) 3 1 (u45.keys_.map I), .sl (gv (qP46 a0.toNat) 1) 9 1 (u45.texts_.map SR), .sl (gv (qP46 a0.toNat) 2) 42 1 (u45.kids_.map (PR gP46))], Cls w F [.obj (gP46 a0.toNat) [(gv (qP46 a0.toNat) 0), (gv (qP46 a0.toNat) 1), (gv (qP46 a0.toNat) 2)] 46, .sl (gv (qP46 a0.toNat) 1) 9 1 (u45.texts_.map SR), .sl (gv (qP46 a0.toNat) 2) 42 1 (u45.kids_.map (PR gP46))]] (Cls w F [.obj (gP46 a0.toNat) [(gv (qP46 a0.toNat) 0), (gv (qP46 a0.toNat) 1), (gv (qP46 a0.toNat) 2)] 46, .sl (gv (qP46 a0.toNat) 2) 42 1 (u45.kids_.map (PR gP46))])) 17 (by kernel_rfl) (Sc.past rfl (Sc.stay (fun _ hw => hw) (Sc.stay (fun _ hw => hw) (Sc.stayD (fun _ hw => hw))))) (Sc.now (by kernel_rfl) (fun _ hw => hw.sel [1, 2, 3, 4] (by decide) rfl)) ?_)
         refine V2.zz [] (Zc.on' (Zc.on' (Zc.fin (fun _ hw => hw)) (fun _ hw => hw.sel [0, 2] (by decide) rfl)) (fun _ hw => hw.sel [0, 3] (by decide) rfl)) (fun hz128 => ?_)
         refine V2.y (i := 18) (Nx2.of [] (by kernel_rfl) rfl hz128) rfl rfl rfl (Y.move rfl) ?_
         refine V2.y (i := 19) (Nx2.of [] (by kernel_rfl) rfl hz128) rfl rfl rfl (Y.extract rfl rfl) ?_
         refine V2.y (i := 20) (Nx2.of [] (by kernel_rfl) rfl hz128) rfl rfl rfl (Y.extract rfl rfl) ?_
         refine V2.zz [22, 24] (Zc.at1 (fun _ hw => hw)) (fun hz130 => ?_)
         refine V2.m (i := 21) (V' := fun _ => el (gv (qP46 a0.toNat) 0) (gx1.toNat * 1)) h (Nx2.of [22, 24] (by kernel_rfl) rfl hz130) rfl rfl rfl (Y.indexM (g := I) (l := u45.keys_) Try.underlying25 sz3 rfl rfl (fun w hw => As.at_ (hw.get (i := 1) rfl))) (fun x131 ex131 h => ?_)
         refine V2.eff (i := 22) (by kernel_rfl) rfl ?_
         refine L.storeSlM (q := 2) (row := I) (vs := [.int .i64 x124]) (j := 0) (u1 := x124) h sz3 rfl rfl rfl rfl rfl (all1 rfl all0) rfl ex131 rfl rfl ?_
         intro l132 el132 h
         refine L.nil (E.toV2 (stC [[24]] [Cls w F [.obj (gP46 a0.toNat) [(gv (qP46 a0.toNat) 0), (gv (qP46 a0.toNat) 1), (gv (qP46 a0.toNat) 2)] 46, .sl (gv (qP46 a0.toNat) 1) 9 1 (u45.texts_.map SR), .sl (gv (qP46 a0.toNat) 2) 42 1 (u45.kids_.map (PR gP46))]] (Cls w F [.obj (gP46 a0.toNat) [(gv (qP46 a0.toNat) 0), (gv (qP46 a0.toNat) 1), (gv (qP46 a0.toNat) 2)] 46, .sl (gv (qP46 a0.toNat) 2) 42 1 (u45.kids_.map (PR gP46))])) 22 (by kernel_rfl) (Sc.past rfl (Sc.stay (fun _ hw => hw) (Sc.stayD (fun _ hw => hw)))) (Sc.now (by kernel_rfl) (fun _ hw => hw.sel [1, 3, 4] (by decide) rfl)) ?_)
         refine V2.zz [24] (Zc.at1 (fun _ hw => hw)) (fun hz134 => ?_)
         refine V2.m (i := 23) (V' := fun _ => el (gv (qP46 a0.toNat) 1) (gx1.toNat * 1)) h (Nx2.of [24] (by kernel_rfl) rfl hz134) rfl rfl rfl (Y.indexM (g := SR) (l := u45.texts_) Try.underlying43 sz9 rfl rfl (fun w hw => As.at_ (hw.get (i := 1) rfl))) (fun x135 ex135 h => ?_)
         refine V2.eff (i := 24) (by kernel_rfl) rfl ?_
         refine L.storeSlM (q := 3) (row := SR) (vs := [st s125]) (j := 0) (u1 := s125) h sz9 rfl rfl rfl rfl rfl (all1 rfl all0) rfl ex135 rfl rfl ?_
         intro l136 el136 h
         refine L.nil (E.toV2 (stC [] [] (Cls w F [.obj (gP46 a0.toNat) [(gv (qP46 a0.toNat) 0), (gv (qP46 a0.toNat) 1), (gv (qP46 a0.toNat) 2)] 46, .sl (gv (qP46 a0.toNat) 2) 42 1 (u45.kids_.map (PR gP46))])) 24 (by kernel_rfl) (Sc.past rfl (Sc.stayD (fun _ hw => hw))) (Sc.atD (fun _ hw => hw.sel [1, 4] (by decide) rfl)) ?_)
         refine V2.done (by kernel_rfl) ?_
         refine E.blockN ?_
         obtain ⟨l137, el137, h⟩ := bind1S h
         refine E.arClose (row := Tnode.rowA gP46) (sub := Tnode.subA gP46) (e := 46) (g := gP46) (gh := q127) (vs' := [(gv (qP46 a0.toNat) 0), (gv (qP46 a0.toNat) 1), (gv (qP46 a0.toNat) 2)]) (hs := []) (hs' := (a0.toNat :: [])) (m' := []) [1, 2, 3, 4, 0] el137 (by decide) rfl (fun _ => List.mem_cons) List.not_mem_nil ?_
         intro q138
         refine E.to (D := Cls w F [ar46 gP46 q138 l137 []]) (fun _ hw => hw) ?_
         exact E.joinJ ⟨l137, q138, rfl, rfl, h⟩ ⟨rfl, rfl, trivial⟩ (fun _ hw => hw)
        ·
         refine L.y rfl (Y.apNil rfl eu45) ?_
         refine L.nil (E.toV2 (stC [[17, 22, 24], [22, 24], [24]] [Cls w F [.obj (gP46 a0.toNat) [(gv (qP46 a0.toNat) 0), (gv (qP46 a0.toNat) 1), (gv (qP46 a0.toNat) 2)] 46, .sl (gv (qP46 a0.toNat) 0) 3 1 (u45.keys_.map I), .sl (gv (qP46 a0.toNat) 1) 9 1 (u45.texts_.map SR), .sl (gv (qP46 a0.toNat) 2) 42 1 (u45.kids_.map (PR gP46)), ar46 gP46 qP46 A46 (a0.toNat :: [])], Cls w F [.obj (gP46 a0.toNat) [(gv (qP46 a0.toNat) 0), (gv (qP46 a0.toNat) 1), (gv (qP46 a0.toNat) 2)] 46, .sl (gv (qP46 a0.toNat) 0) 3 1 (u45.keys_.map I), .sl (gv (qP46 a0.toNat) 1) 9 1 (u45.texts_.map SR), .sl (gv (qP46 a0.toNat) 2) 42 1 (u45.kids_.map (PR gP46))], Cls w F [.obj (gP46 a0.toNat) [(gv (qP46 a0.toNat) 0), (gv (qP46 a0.toNat) 1), (gv (qP46 a0.toNat) 2)] 46, .sl (gv (qP46 a0.toNat) 1) 9 1 (u45.texts_.map SR), .sl (gv (qP46 a0.toNat) 2) 42 1 (u45.kids_.map (PR gP46))]] (Cls w F [.obj (gP46 a0.toNat) [(gv (qP46 a0.toNat) 0), (gv (qP46 a0.toNat) 1), (gv (qP46 a0.toNat) 2)] 46, .sl (gv (qP46 a0.toNat) 2) 42 1 (u45.kids_.map (PR gP46))])) 11 (by kernel_rfl) (Sc.stay (fun _ hw => hw) (Sc.stay (fun _ hw => hw) (Sc.stay (fun _ hw => hw) (Sc.stayD (fun _ hw => hw))))) (Sc.now (by kernel_rfl) (fun _ hw => hw)) ?_)
         refine V2.zz [] (Zc.on' (Zc.on' (Zc.on' (Zc.fin (fun _ hw => hw)) (fun _ hw => hw.sel [0, 2] (by decide) rfl)) (fun _ hw => hw.sel [0, 3] (by decide) rfl)) (fun _ hw => hw.sel [0, 3] (by decide) rfl)) (fun hz141 => ?_)
         refine V2.y (i := 12) (Nx2.of [] (by kernel_rfl) rfl hz141) rfl rfl rfl (Y.fieldP fd46_2 rfl) ?_
         refine V2.y (i := 13) (Nx2.of [] (by kernel_rfl) rfl hz141) rfl rfl rfl (Y.loadP (i := 0) ag44 rfl rfl rfl) ?_
         refine V2.m (i := 15) (V' := fun _ => el (gv (qP46 a0.toNat) 2) (gx1.toNat * 1)) h (Nx2.of [] (by kernel_rfl) rfl hz141) rfl rfl rfl (Y.indexM (g := (PR gP46)) (l := u45.kids_) Try.underlying44 sz42 rfl rfl (fun w hw => As.at_ (hw.get (i := 1) rfl))) (fun x144 ex144 h => ?_)
         refine V2.y (i := 16) (Nx2.of [] (by kernel_rfl) rfl hz141) rfl rfl rfl (Y.loadE1 (u := VP gP46 x144) ag42 rfl (fun w hw => As.at_ (hw.get (i := 1) rfl)) (idx_map ex144)) ?_
         refine V2.eff2 (i1 := 6) (i2 := 17) (by kernel_rfl) rfl rfl ?_ ?_
         ·
          refine L.y rfl (Y.apNil rfl eu45) ?_
          refine L.nil (E.toV2 (stC [[17, 22, 24], [22, 24], [24]] [Cls w F [.obj (gP46 a0.toNat) [(gv (qP46 a0.toNat) 0), (gv (qP46 a0.toNat) 1), (gv (qP46 a0.toNat) 2)] 46, .sl (gv (qP46 a0.toNat) 0) 3 1 (u45.keys_.map I), .sl (gv (qP46 a0.toNat) 1) 9 1 (u45.texts_.map SR), .sl (gv (qP46 a0.toNat) 2) 42 1 (u45.kids_.map (PR gP46)), ar46 gP46 qP46 A46 (a0.toNat :: [])], Cls w F [.obj (gP46 a0.toNat) [(gv (qP46 a0.toNat) 0), (gv (qP46 a0.toNat) 1), (gv (qP46 a0.toNat) 2)] 46, .sl (gv (qP46 a0.toNat) 0) 3 1 (u45.keys_.map I), .sl (gv (qP46 a0.toNat) 1) 9 1 (u45.texts_.map SR), .sl (gv (qP46 a0.toNat) 2) 42 1 (u45.kids_.map (PR gP46))], Cls w F [.obj (gP46 a0.toNat) [(gv (qP46 a0.toNat) 0), (gv (qP46 a0.toNat) 1), (gv (qP46 a0.toNat) 2)] 46, .sl (gv (qP46 a0.toNat) 1) 9 1 (u45.texts_.map SR), .sl (gv (qP46 a0.toNat) 2) 42 1 (u45.kids_.map (PR gP46))]] (Cls w F [.obj (gP46 a0.toNat) [(gv (qP46 a0.toNat) 0), (gv (qP46 a0.toNat) 1), (gv (qP46 a0.toNat) 2)] 46, .sl (gv (qP46 a0.toNat) 2) 42 1 (u45.kids_.map (PR gP46))])) 6 (by kernel_rfl) (Sc.stay (fun _ hw => hw) (Sc.stay (fun _ hw => hw) (Sc.stay (fun _ hw => hw) (Sc.stayD (fun _ hw => hw))))) (Sc.now (by kernel_rfl) (fun _ hw => hw)) ?_)
          refine V2.zz [] (Zc.on' (Zc.on' (Zc.on' (Zc.fin (fun _ hw => hw)) (fun _ hw => hw.sel [0, 2] (by decide) rfl)) (fun _ hw => hw.sel [0, 3] (by decide) rfl)) (fun _ hw => hw.sel [0, 3] (by decide) rfl)) (fun hz147 => ?_)
          refine V2.y (i := 7) (Nx2.of [] (by kernel_rfl) rfl hz147) rfl rfl rfl (Y.fieldP fd46_1 rfl) ?_
          refine V2.y (i := 8) (Nx2.of [] (by kernel_rfl) rfl hz147) rfl rfl rfl (Y.loadP (i := 0) ag43 rfl rfl rfl) ?_
          refine V2.eff (i := 17) (by kernel_rfl) rfl ?_
          refine L.to (D := Cls w F [ar46 gP46 qP46 A46 (a0.toNat :: []), .obj (gP46 a0.toNat) [(gv (qP46 a0.toNat) 0), (gv (qP46 a0.toNat) 1), (gv (qP46 a0.toNat) 2)] 46, .sl (gv (qP46 a0.toNat) 0) 3 1 (u45.keys_.map I), .sl (gv (qP46 a0.toNat) 1) 9 1 (u45.texts_.map SR), .sl (gv (qP46 a0.toNat) 2) 42 1 (u45.kids_.map (PR gP46))]) (fun _ hw => hw.sel [4, 0, 1, 2, 3] (by decide) rfl) ?_
          obtain ⟨l148, x149, s150, e151, h⟩ := bind3S h
          refine L.doesP (A := [ar46 gP46 qP46 A46 (a0.toNat :: [])]) (M := [.obj (gP46 a0.toNat) [(gv (qP46 a0.toNat) 0), (gv (qP46 a0.toNat) 1), (gv (qP46 a0.toNat) 2)] 46, .sl (gv (qP46 a0.toNat) 0) 3 1 (u45.keys_.map I), .sl (gv (qP46 a0.toNat) 1) 9 1 (u45.texts_.map SR), .sl (gv (qP46 a0.toNat) 2) 42 1 (u45.kids_.map (PR gP46))]) rfl en26 rfl (fun w' hw => w26_tree_node_last x144 A46 (a0.toNat :: []) gP46 qP46 w' _ e151 _ hw.lend) ?_
          rintro _ _ ⟨q152, rfl, rfl⟩
          refine L.to (D := Cls w F [ar46 gP46 q152 l148 (a0.toNat :: []), .obj (gP46 a0.toNat) [(gv (qP46 a0.toNat) 0), (gv (qP46 a0.toNat) 1), (gv (qP46 a0.toNat) 2)] 46, .sl (gv (qP46 a0.toNat) 0) 3 1 (u45.keys_.map I), .sl (gv (qP46 a0.toNat) 1) 9 1 (u45.texts_.map SR), .sl (gv (qP46 a0.toNat) 2) 42 1 (u45.kids_.map (PR gP46))]) (fun _ hw => hw) ?_
          refine L.nil (E.toV2 (stC [[22, 24], [24]] [Cls w F [.obj (gP46 a0.toNat) [(gv (qP46 a0.toNat) 0), (gv (qP46 a0.toNat) 1), (gv (qP46 a0.toNat) 2)] 46, .sl (gv (qP46 a0.toNat) 0) 3 1 (u45.keys_.map I), .sl (gv (qP46 a0.toNat) 1) 9 1 (u45.texts_.map SR), .sl (gv (qP46 a0.toNat) 2) 42 1 (u45.kids_.map (PR gP46))], Cls w F [.obj (gP46 a0.toNat) [(gv (qP46 a0.toNat) 0), (gv (qP46 a0.toNat) 1), (gv (qP46 a0.toNat) 2)] 46, .sl (gv (qP46 a0.toNat) 1) 9 1 (u45.texts_.map SR), .sl (gv (qP46 a0.toNat) 2) 42 1 (u45.kids_.map (PR gP46))]] (Cls w F [.obj (gP46 a0.toNat) [(gv (qP46 a0.toNat) 0), (gv (qP46 a0.toNat) 1), (gv (qP46 a0.toNat) 2)] 46, .sl (gv (qP46 a0.toNat) 2) 42 1 (u45.kids_.map (PR gP46))])) 17 (by kernel_rfl) (Sc.past rfl (Sc.stay (fun _ hw => hw) (Sc.stay (fun _ hw => hw) (Sc.stayD (fun _ hw => hw))))) (Sc.now (by kernel_rfl) (fun _ hw => hw.sel [1, 2, 3, 4] (by decide) rfl)) ?_)
          refine V2.zz [] (Zc.on' (Zc.on' (Zc.fin (fun _ hw => hw)) (fun _ hw => hw.sel [0, 2] (by decide) rfl)) (fun _ hw => hw.sel [0, 3] (by decide) rfl)) (fun hz153 => ?_)
          refine V2.y (i := 18) (Nx2.of [] (by kernel_rfl) rfl hz153) rfl rfl rfl (Y.move rfl) ?_
          refine V2.y (i := 19) (Nx2.of [] (by kernel_rfl) rfl hz153) rfl rfl rfl (Y.extract rfl rfl) ?_
          refine V2.y (i := 20) (Nx2.of [] (by kernel_rfl) rfl hz153) rfl rfl rfl (Y.extract rfl rfl) ?_
          refine V2.zz [22, 24] (Zc.at1 (fun _ hw => hw)) (fun hz155 => ?_)
          refine V2.m (i := 21) (V' := fun _ => el (gv (qP46 a0.toNat) 0) (gx1.toNat * 1)) h (Nx2.of [22, 24] (by kernel_rfl) rfl hz155) rfl rfl rfl (Y.indexM (g := I) (l := u45.keys_) Try.underlying25 sz3 rfl rfl (fun w hw => As.at_ (hw.get (i := 1) rfl))) (fun x156 ex156 h => ?_)
          refine V2.eff (i := 22) (by kernel_rfl) rfl ?_
          refine L.storeSlM (q := 2) (row := I) (vs := [.int .i64 x149]) (j := 0) (u1 := x149) h sz3 rfl rfl rfl rfl rfl (all1 rfl all0) rfl ex156 rfl rfl ?_
          intro l157 el157 h
          refine L.nil (E.toV2 (stC [[24]] [Cls w F [.obj (gP46 a0.toNat) [(gv (qP46 a0.toNat) 0), (gv (qP46 a0.toNat) 1), (gv (qP46 a0.toNat) 2)] 46, .sl (gv (qP46 a0.toNat) 1) 9 1 (u45.texts_.map SR), .sl (gv (qP46 a0.toNat) 2) 42 1 (u45.kids_.map (PR gP46))]] (Cls w F [.obj (gP46 a0.toNat) [(gv (qP46 a0.toNat) 0), (gv (qP46 a0.toNat) 1), (gv (qP46 a0.toNat) 2)] 46, .sl (gv (qP46 a0.toNat) 2) 42 1 (u45.kids_.map (PR gP46))])) 22 (by kernel_rfl) (Sc.past rfl (Sc.stay (fun _ hw => hw) (Sc.stayD (fun _ hw => hw)))) (Sc.now (by kernel_rfl) (fun _ hw => hw.sel [1, 3, 4] (by decide) rfl)) ?_)
          refine V2.zz [24] (Zc.at1 (fun _ hw => hw)) (fun hz159 => ?_)
          refine V2.m (i := 23) (V' := fun _ => el (gv (qP46 a0.toNat) 1) (gx1.toNat * 1)) h (Nx2.of [24] (by kernel_rfl) rfl hz159) rfl rfl rfl (Y.indexM (g := SR) (l := u45.texts_) Try.underlying43 sz9 rfl rfl (fun w hw => As.at_ (hw.get (i := 1) rfl))) (fun x160 ex160 h => ?_)
          refine V2.eff (i := 24) (by kernel_rfl) rfl ?_
          refine L.storeSlM (q := 3) (row := SR) (vs := [st s150]) (j := 0) (u1 := s150) h sz9 rfl rfl rfl rfl rfl (all1 rfl all0) rfl ex160 rfl rfl ?_
          intro l161 el161 h
          refine L.nil (E.toV2 (stC [] [] (Cls w F [.obj (gP46 a0.toNat) [(gv (qP46 a0.toNat) 0), (gv (qP46 a0.toNat) 1), (gv (qP46 a0.toNat) 2)] 46, .sl (gv (qP46 a0.toNat) 2) 42 1 (u45.kids_.map (PR gP46))])) 24 (by kernel_rfl) (Sc.past rfl (Sc.stayD (fun _ hw => hw))) (Sc.atD (fun _ hw => hw.sel [1, 4] (by decide) rfl)) ?_)
          refine V2.done (by kernel_rfl) ?_
          refine E.blockN ?_
          obtain ⟨l162, el162, h⟩ := bind1S h
          refine E.arClose (row := Tnode.rowA gP46) (sub := Tnode.subA gP46) (e := 46) (g := gP46) (gh := q152) (vs' := [(gv (qP46 a0.toNat) 0), (gv (qP46 a0.toNat) 1), (gv (qP46 a0.toNat) 2)]) (hs := []) (hs' := (a0.toNat :: [])) (m' := []) [1, 2, 3, 4, 0] el162 (by decide) rfl (fun _ => List.mem_cons) List.not_mem_nil ?_
          intro q163
          refine E.to (D := Cls w F [ar46 gP46 q163 l162 []]) (fun _ hw => hw) ?_
          exact E.joinJ ⟨l162, q163, rfl, rfl, h⟩ ⟨rfl, rfl, trivial⟩ (fun _ hw => hw)
         ·
          refine L.to (D := Cls w F [ar46 gP46 qP46 A46 (a0.toNat :: []), .obj (gP46 a0.toNat) [(gv (qP46 a0.toNat) 0), (gv (qP46 a0.toNat) 1), (gv (qP46 a0.toNat) 2)] 46, .sl (gv (qP46 a0.toNat) 0) 3 1 (u45.keys_.map I), .sl (gv (qP46 a0.toNat) 1) 9 1 (u45.texts_.map SR), .sl (gv (qP46 a0.toNat) 2) 42 1 (u45.kids_.map (PR gP46))]) (fun _ hw => hw.sel [4, 0, 1, 2, 3] (by decide) rfl) ?_
          obtain ⟨l164, x165, s166, e167, h⟩ := bind3S h
          refine L.doesP (A := [ar46 gP46 qP46 A46 (a0.toNat :: [])]) (M := [.obj (gP46 a0.toNat) [(gv (qP46 a0.toNat) 0), (gv (qP46 a0.toNat) 1), (gv (qP46 a0.toNat) 2)] 46, .sl (gv (qP46 a0.toNat) 0) 3 1 (u45.keys_.map I), .sl (gv (qP46 a0.toNat) 1) 9 1 (u45.texts_.map SR), .sl (gv (qP46 a0.toNat) 2) 42 1 (u45.kids_.map (PR gP46))]) rfl en26 rfl (fun w' hw => w26_tree_node_last x144 A46 (a0.toNat :: []) gP46 qP46 w' _ e167 _ hw.lend) ?_
          rintro _ _ ⟨q168, rfl, rfl⟩
          refine L.to (D := Cls w F [ar46 gP46 q168 l164 (a0.toNat :: []), .obj (gP46 a0.toNat) [(gv (qP46 a0.toNat) 0), (gv (qP46 a0.toNat) 1), (gv (qP46 a0.toNat) 2)] 46, .sl (gv (qP46 a0.toNat) 0) 3 1 (u45.keys_.map I), .sl (gv (qP46 a0.toNat) 1) 9 1 (u45.texts_.map SR), .sl (gv (qP46 a0.toNat) 2) 42 1 (u45.kids_.map (PR gP46))]) (fun _ hw => hw) ?_
          refine L.nil (E.toV2 (stC [[22, 24], [24]] [Cls w F [.obj (gP46 a0.toNat) [(gv (qP46 a0.toNat) 0), (gv (qP46 a0.toNat) 1), (gv (qP46 a0.toNat) 2)] 46, .sl (gv (qP46 a0.toNat) 0) 3 1 (u45.keys_.map I), .sl (gv (qP46 a0.toNat) 1) 9 1 (u45.texts_.map SR), .sl (gv (qP46 a0.toNat) 2) 42 1 (u45.kids_.map (PR gP46))], Cls w F [.obj (gP46 a0.toNat) [(gv (qP46 a0.toNat) 0), (gv (qP46 a0.toNat) 1), (gv (qP46 a0.toNat) 2)] 46, .sl (gv (qP46 a0.toNat) 1) 9 1 (u45.texts_.map SR), .sl (gv (qP46 a0.toNat) 2) 42 1 (u45.kids_.map (PR gP46))]] (Cls w F [.obj (gP46 a0.toNat) [(gv (qP46 a0.toNat) 0), (gv (qP46 a0.toNat) 1), (gv (qP46 a0.toNat) 2)] 46, .sl (gv (qP46 a0.toNat) 2) 42 1 (u45.kids_.map (PR gP46))])) 17 (by kernel_rfl) (Sc.past rfl (Sc.stay (fun _ hw => hw) (Sc.stay (fun _ hw => hw) (Sc.stayD (fun _ hw => hw))))) (Sc.now (by kernel_rfl) (fun _ hw => hw.sel [1, 2, 3, 4] (by decide) rfl)) ?_)
          refine V2.zz [] (Zc.on' (Zc.on' (Zc.fin (fun _ hw => hw)) (fun _ hw => hw.sel [0, 2] (by decide) rfl)) (fun _ hw => hw.sel [0, 3] (by decide) rfl)) (fun hz171 => ?_)
          refine V2.y (i := 18) (Nx2.of [] (by kernel_rfl) rfl hz171) rfl rfl rfl (Y.move rfl) ?_
          refine V2.y (i := 19) (Nx2.of [] (by kernel_rfl) rfl hz171) rfl rfl rfl (Y.extract rfl rfl) ?_
          refine V2.y (i := 20) (Nx2.of [] (by kernel_rfl) rfl hz171) rfl rfl rfl (Y.extract rfl rfl) ?_
          refine V2.eff (i := 6) (by kernel_rfl) rfl ?_
          refine L.y rfl (Y.apNil rfl eu45) ?_
          refine L.nil (E.toV2 (stC [[22, 24], [24]] [Cls w F [.obj (gP46 a0.toNat) [(gv (qP46 a0.toNat) 0), (gv (qP46 a0.toNat) 1), (gv (qP46 a0.toNat) 2)] 46, .sl (gv (qP46 a0.toNat) 0) 3 1 (u45.keys_.map I), .sl (gv (qP46 a0.toNat) 1) 9 1 (u45.texts_.map SR), .sl (gv (qP46 a0.toNat) 2) 42 1 (u45.kids_.map (PR gP46))], Cls w F [.obj (gP46 a0.toNat) [(gv (qP46 a0.toNat) 0), (gv (qP46 a0.toNat) 1), (gv (qP46 a0.toNat) 2)] 46, .sl (gv (qP46 a0.toNat) 1) 9 1 (u45.texts_.map SR), .sl (gv (qP46 a0.toNat) 2) 42 1 (u45.kids_.map (PR gP46))]] (Cls w F [.obj (gP46 a0.toNat) [(gv (qP46 a0.toNat) 0), (gv (qP46 a0.toNat) 1), (gv (qP46 a0.toNat) 2)] 46, .sl (gv (qP46 a0.toNat) 2) 42 1 (u45.kids_.map (PR gP46))])) 6 (by kernel_rfl) (Sc.stay (fun _ hw => hw) (Sc.stay (fun _ hw => hw) (Sc.stayD (fun _ hw => hw)))) (Sc.now (by kernel_rfl) (fun _ hw => hw.sel [1, 2, 3, 4] (by decide) rfl)) ?_)
          refine V2.zz [] (Zc.on' (Zc.on' (Zc.fin (fun _ hw => hw)) (fun _ hw => hw.sel [0, 2] (by decide) rfl)) (fun _ hw => hw.sel [0, 3] (by decide) rfl)) (fun hz175 => ?_)
          refine V2.y (i := 7) (Nx2.of [] (by kernel_rfl) rfl hz175) rfl rfl rfl (Y.fieldP fd46_1 rfl) ?_
          refine V2.y (i := 8) (Nx2.of [] (by kernel_rfl) rfl hz175) rfl rfl rfl (Y.loadP (i := 0) ag43 rfl rfl rfl) ?_
          refine V2.zz [22, 24] (Zc.at1 (fun _ hw => hw)) (fun hz177 => ?_)
          refine V2.m (i := 21) (V' := fun _ => el (gv (qP46 a0.toNat) 0) (gx1.toNat * 1)) h (Nx2.of [22, 24] (by kernel_rfl) rfl hz177) rfl rfl rfl (Y.indexM (g := I) (l := u45.keys_) Try.underlying25 sz3 rfl rfl (fun w hw => As.at_ (hw.get (i := 1) rfl))) (fun x178 ex178 h => ?_)
          refine V2.eff (i := 22) (by kernel_rfl) rfl ?_
          refine L.storeSlM (q := 2) (row := I) (vs := [.int .i64 x165]) (j := 0) (u1 := x165) h sz3 rfl rfl rfl rfl rfl (all1 rfl all0) rfl ex178 rfl rfl ?_
          intro l179 el179 h
          refine L.nil (E.toV2 (stC [[24]] [Cls w F [.obj (gP46 a0.toNat) [(gv (qP46 a0.toNat) 0), (gv (qP46 a0.toNat) 1), (gv (qP46 a0.toNat) 2)] 46, .sl (gv (qP46 a0.toNat) 1) 9 1 (u45.texts_.map SR), .sl (gv (qP46 a0.toNat) 2) 42 1 (u45.kids_.map (PR gP46))]] (Cls w F [.obj (gP46 a0.toNat) [(gv (qP46 a0.toNat) 0), (gv (qP46 a0.toNat) 1), (gv (qP46 a0.toNat) 2)] 46, .sl (gv (qP46 a0.toNat) 2) 42 1 (u45.kids_.map (PR gP46))])) 22 (by kernel_rfl) (Sc.past rfl (Sc.stay (fun _ hw => hw) (Sc.stayD (fun _ hw => hw)))) (Sc.now (by kernel_rfl) (fun _ hw => hw.sel [1, 3, 4] (by decide) rfl)) ?_)
          refine V2.zz [24] (Zc.at1 (fun _ hw => hw)) (fun hz181 => ?_)
          refine V2.m (i := 23) (V' := fun _ => el (gv (qP46 a0.toNat) 1) (gx1.toNat * 1)) h (Nx2.of [24] (by kernel_rfl) rfl hz181) rfl rfl rfl (Y.indexM (g := SR) (l := u45.texts_) Try.underlying43 sz9 rfl rfl (fun w hw => As.at_ (hw.get (i := 1) rfl))) (fun x182 ex182 h => ?_)
          refine V2.eff (i := 24) (by kernel_rfl) rfl ?_
          refine L.storeSlM (q := 3) (row := SR) (vs := [st s166]) (j := 0) (u1 := s166) h sz9 rfl rfl rfl rfl rfl (all1 rfl all0) rfl ex182 rfl rfl ?_
          intro l183 el183 h
          refine L.nil (E.toV2 (stC [] [] (Cls w F [.obj (gP46 a0.toNat) [(gv (qP46 a0.toNat) 0), (gv (qP46 a0.toNat) 1), (gv (qP46 a0.toNat) 2)] 46, .sl (gv (qP46 a0.toNat) 2) 42 1 (u45.kids_.map (PR gP46))])) 24 (by kernel_rfl) (Sc.past rfl (Sc.stayD (fun _ hw => hw))) (Sc.atD (fun _ hw => hw.sel [1, 4] (by decide) rfl)) ?_)
          refine V2.done (by kernel_rfl) ?_
          refine E.blockN ?_
          obtain ⟨l184, el184, h⟩ := bind1S h
          refine E.arClose (row := Tnode.rowA gP46) (sub := Tnode.subA gP46) (e := 46) (g := gP46) (gh := q168) (vs' := [(gv (qP46 a0.toNat) 0), (gv (qP46 a0.toNat) 1), (gv (qP46 a0.toNat) 2)]) (hs := []) (hs' := (a0.toNat :: [])) (m' := []) [1, 2, 3, 4, 0] el184 (by decide) rfl (fun _ => List.mem_cons) List.not_mem_nil ?_
          intro q185
          refine E.to (D := Cls w F [ar46 gP46 q185 l184 []]) (fun _ hw => hw) ?_
          exact E.joinJ ⟨l184, q185, rfl, rfl, h⟩ ⟨rfl, rfl, trivial⟩ (fun _ hw => hw)
       ·
        refine L.y rfl (Y.apNil rfl eu45) ?_
        refine L.nil (E.toV2 (stC [[17, 22, 24], [22, 24], [24]] [Cls w F [.obj (gP46 a0.toNat) [(gv (qP46 a0.toNat) 0), (gv (qP46 a0.toNat) 1), (gv (qP46 a0.toNat) 2)] 46, .sl (gv (qP46 a0.toNat) 0) 3 1 (u45.keys_.map I), .sl (gv (qP46 a0.toNat) 1) 9 1 (u45.texts_.map SR), .sl (gv (qP46 a0.toNat) 2) 42 1 (u45.kids_.map (PR gP46)), ar46 gP46 qP46 A46 (a0.toNat :: [])], Cls w F [.obj (gP46 a0.toNat) [(gv (qP46 a0.toNat) 0), (gv (qP46 a0.toNat) 1), (gv (qP46 a0.toNat) 2)] 46, .sl (gv (qP46 a0.toNat) 0) 3 1 (u45.keys_.map I), .sl (gv (qP46 a0.toNat) 1) 9 1 (u45.texts_.map SR), .sl (gv (qP46 a0.toNat) 2) 42 1 (u45.kids_.map (PR gP46))], Cls w F [.obj (gP46 a0.toNat) [(gv (qP46 a0.toNat) 0), (gv (qP46 a0.toNat) 1), (gv (qP46 a0.toNat) 2)] 46, .sl (gv (qP46 a0.toNat) 1) 9 1 (u45.texts_.map SR), .sl (gv (qP46 a0.toNat) 2) 42 1 (u45.kids_.map (PR gP46))]] (Cls w F [.obj (gP46 a0.toNat) [(gv (qP46 a0.toNat) 0), (gv (qP46 a0.toNat) 1), (gv (qP46 a0.toNat) 2)] 46, .sl (gv (qP46 a0.toNat) 2) 42 1 (u45.kids_.map (PR gP46))])) 6 (by kernel_rfl) (Sc.stay (fun _ hw => hw) (Sc.stay (fun _ hw => hw) (Sc.stay (fun _ hw => hw) (Sc.stayD (fun _ hw => hw))))) (Sc.now (by kernel_rfl) (fun _ hw => hw)) ?_)
        refine V2.zz [] (Zc.on' (Zc.on' (Zc.on' (Zc.fin (fun _ hw => hw)) (fun _ hw => hw.sel [0, 2] (by decide) rfl)) (fun _ hw => hw.sel [0, 3] (by decide) rfl)) (fun _ hw => hw.sel [0, 3] (by decide) rfl)) (fun hz189 => ?_)
        refine V2.y (i := 7) (Nx2.of [] (by kernel_rfl) rfl hz189) rfl rfl rfl (Y.fieldP fd46_1 rfl) ?_
        refine V2.y (i := 8) (Nx2.of [] (by kernel_rfl) rfl hz189) rfl rfl rfl (Y.loadP (i := 0) ag43 rfl rfl rfl) ?_
        refine V2.eff2 (i1 := 1) (i2 := 11) (by kernel_rfl) rfl rfl ?_ ?_
        ·
         refine L.y rfl (Y.apNil rfl eu45) ?_
         refine L.nil (E.toV2 (stC [[17, 22, 24], [22, 24], [24]] [Cls w F [.obj (gP46 a0.toNat) [(gv (qP46 a0.toNat) 0), (gv (qP46 a0.toNat) 1), (gv (qP46 a0.toNat) 2)] 46, .sl (gv (qP46 a0.toNat) 0) 3 1 (u45.keys_.map I), .sl (gv (qP46 a0.toNat) 1) 9 1 (u45.texts_.map SR), .sl (gv (qP46 a0.toNat) 2) 42 1 (u45.kids_.map (PR gP46)), ar46 gP46 qP46 A46 (a0.toNat :: [])], Cls w F [.obj (gP46 a0.toNat) [(gv (qP46 a0.toNat) 0), (gv (qP46 a0.toNat) 1), (gv (qP46 a0.toNat) 2)] 46, .sl (gv (qP46 a0.toNat) 0) 3 1 (u45.keys_.map I), .sl (gv (qP46 a0.toNat) 1) 9 1 (u45.texts_.map SR), .sl (gv (qP46 a0.toNat) 2) 42 1 (u45.kids_.map (PR gP46))], Cls w F [.obj (gP46 a0.toNat) [(gv (qP46 a0.toNat) 0), (gv (qP46 a0.toNat) 1), (gv (qP46 a0.toNat) 2)] 46, .sl (gv (qP46 a0.toNat) 1) 9 1 (u45.texts_.map SR), .sl (gv (qP46 a0.toNat) 2) 42 1 (u45.kids_.map (PR gP46))]] (Cls w F [.obj (gP46 a0.toNat) [(gv (qP46 a0.toNat) 0), (gv (qP46 a0.toNat) 1), (gv (qP46 a0.toNat) 2)] 46, .sl (gv (qP46 a0.toNat) 2) 42 1 (u45.kids_.map (PR gP46))])) 1 (by kernel_rfl) (Sc.stay (fun _ hw => hw) (Sc.stay (fun _ hw => hw) (Sc.stay (fun _ hw => hw) (Sc.stayD (fun _ hw => hw))))) (Sc.now (by kernel_rfl) (fun _ hw => hw)) ?_)
         refine V2.zz [] (Zc.on' (Zc.on' (Zc.on' (Zc.fin (fun _ hw => hw)) (fun _ hw => hw.sel [0, 2] (by decide) rfl)) (fun _ hw => hw.sel [0, 3] (by decide) rfl)) (fun _ hw => hw.sel [0, 3] (by decide) rfl)) (fun hz196 => ?_)
         refine V2.y (i := 2) (Nx2.of [] (by kernel_rfl) rfl hz196) rfl rfl rfl (Y.fieldP fd46_0 rfl) ?_
         refine V2.y (i := 3) (Nx2.of [] (by kernel_rfl) rfl hz196) rfl rfl rfl (Y.loadP (i := 0) ag25 rfl rfl rfl) ?_
         refine V2.eff (i := 11) (by kernel_rfl) rfl ?_
         refine L.y rfl (Y.apNil rfl eu45) ?_
         refine L.nil (E.toV2 (stC [[17, 22, 24], [22, 24], [24]] [Cls w F [.obj (gP46 a0.toNat) [(gv (qP46 a0.toNat) 0), (gv (qP46 a0.toNat) 1), (gv (qP46 a0.toNat) 2)] 46, .sl (gv (qP46 a0.toNat) 0) 3 1 (u45.keys_.map I), .sl (gv (qP46 a0.toNat) 1) 9 1 (u45.texts_.map SR), .sl (gv (qP46 a0.toNat) 2) 42 1 (u45.kids_.map (PR gP46)), ar46 gP46 qP46 A46 (a0.toNat :: [])], Cls w F [.obj (gP46 a0.toNat) [(gv (qP46 a0.toNat) 0), (gv (qP46 a0.toNat) 1), (gv (qP46 a0.toNat) 2)] 46, .sl (gv (qP46 a0.toNat) 0) 3 1 (u45.keys_.map I), .sl (gv (qP46 a0.toNat) 1) 9 1 (u45.texts_.map SR), .sl (gv (qP46 a0.toNat) 2) 42 1 (u45.kids_.map (PR gP46))], Cls w F [.obj (gP46 a0.toNat) [(gv (qP46 a0.toNat) 0), (gv (qP46 a0.toNat) 1), (gv (qP46 a0.toNat) 2)] 46, .sl (gv (qP46 a0.toNat) 1) 9 1 (u45.texts_.map SR), .sl (gv (qP46 a0.toNat) 2) 42 1 (u45.kids_.map (PR gP46))]] (Cls w F [.obj (gP46 a0.toNat) [(gv (qP46 a0.toNat) 0), (gv (qP46 a0.toNat) 1), (gv (qP46 a0.toNat) 2)] 46, .sl (gv (qP46 a0.toNat) 2) 42 1 (u45.kids_.map (PR gP46))])) 11 (by kernel_rfl) (Sc.stay (fun _ hw => hw) (Sc.stay (fun _ hw => hw) (Sc.stay (fun _ hw => hw) (Sc.stayD (fun _ hw => hw))))) (Sc.now (by kernel_rfl) (fun _ hw => hw)) ?_)
         refine V2.zz [] (Zc.on' (Zc.on' (Zc.on' (Zc.fin (fun _ hw => hw)) (fun _ hw => hw.sel [0, 2] (by decide) rfl)) (fun _ hw => hw.sel [0, 3] (by decide) rfl)) (fun _ hw => hw.sel [0, 3] (by decide) rfl)) (fun hz199 => ?_)
         refine V2.y (i := 12) (Nx2.of [] (by kernel_rfl) rfl hz199) rfl rfl rfl (Y.fieldP fd46_2 rfl) ?_
         refine V2.y (i := 13) (Nx2.of [] (by kernel_rfl) rfl hz199) rfl rfl rfl (Y.loadP (i := 0) ag44 rfl rfl rfl) ?_
         refine V2.m (i := 15) (V' := fun _ => el (gv (qP46 a0.toNat) 2) (gx1.toNat * 1)) h (Nx2.of [] (by kernel_rfl) rfl hz199) rfl rfl rfl (Y.indexM (g := (PR gP46)) (l := u45.kids_) Try.underlying44 sz42 rfl rfl (fun w hw => As.at_ (hw.get (i := 1) rfl))) (fun x200 ex200 h => ?_)
         refine V2.y (i := 16) (Nx2.of [] (by kernel_rfl) rfl hz199) rfl rfl rfl (Y.loadE1 (u := VP gP46 x200) ag42 rfl (fun w hw => As.at_ (hw.get (i := 1) rfl)) (idx_map ex200)) ?_
         refine V2.eff (i := 17) (by kernel_rfl) rfl ?_
         refine L.to (D := Cls w F [ar46 gP46 qP46 A46 (a0.toNat :: []), .obj (gP46 a0.toNat) [(gv (qP46 a0.toNat) 0), (gv (qP46 a0.toNat) 1), (gv (qP46 a0.toNat) 2)] 46, .sl (gv (qP46 a0.toNat) 0) 3 1 (u45.keys_.map I), .sl (gv (qP46 a0.toNat) 1) 9 1 (u45.texts_.map SR), .sl (gv (qP46 a0.toNat) 2) 42 1 (u45.kids_.map (PR gP46))]) (fun _ hw => hw.sel [4, 0, 1, 2, 3] (by decide) rfl) ?_
         obtain ⟨l201, x202, s203, e204, h⟩ := bind3S h
         refine L.doesP (A := [ar46 gP46 qP46 A46 (a0.toNat :: [])]) (M := [.obj (gP46 a0.toNat) [(gv (qP46 a0.toNat) 0), (gv (qP46 a0.toNat) 1), (gv (qP46 a0.toNat) 2)] 46, .sl (gv (qP46 a0.toNat) 0) 3 1 (u45.keys_.map I), .sl (gv (qP46 a0.toNat) 1) 9 1 (u45.texts_.map SR), .sl (gv (qP46 a0.toNat) 2) 42 1 (u45.kids_.map (PR gP46))]) rfl en26 rfl (fun w' hw => w26_tree_node_last x200 A46 (a0.toNat :: []) gP46 qP46 w' _ e204 _ hw.lend) ?_
         rintro _ _ ⟨q205, rfl, rfl⟩
         refine L.to (D := Cls w F [ar46 gP46 q205 l201 (a0.toNat :: []), .obj (gP46 a0.toNat) [(gv (qP46 a0.toNat) 0), (gv (qP46 a0.toNat) 1), (gv (qP46 a0.toNat) 2)] 46, .sl (gv (qP46 a0.toNat) 0) 3 1 (u45.keys_.map I), .sl (gv (qP46 a0.toNat) 1) 9 1 (u45.texts_.map SR), .sl (gv (qP46 a0.toNat) 2) 42 1 (u45.kids_.map (PR gP46))]) (fun _ hw => hw) ?_
         refine L.nil (E.toV2 (stC [[22, 24], [24]] [Cls w F [.obj (gP46 a0.toNat) [(gv (qP46 a0.toNat) 0), (gv (qP46 a0.toNat) 1), (gv (qP46 a0.toNat) 2)] 46, .sl (gv (qP46 a0.toNat) 0) 3 1 (u45.keys_.map I), .sl (gv (qP46 a0.toNat) 1) 9 1 (u45.texts_.map SR), .sl (gv (qP46 a0.toNat) 2) 42 1 (u45.kids_.map (PR gP46))], Cls w F [.obj (gP46 a0.toNat) [(gv (qP46 a0.toNat) 0), (gv (qP46 a0.toNat) 1), (gv (qP46 a0.toNat) 2)] 46, .sl (gv (qP46 a0.toNat) 1) 9 1 (u45.texts_.map SR), .sl (gv (qP46 a0.toNat) 2) 42 1 (u45.kids_.map (PR gP46))]] (Cls w F [.obj (gP46 a0.toNat) [(gv (qP46 a0.toNat) 0), (gv (qP46 a0.toNat) 1), (gv (qP46 a0.toNat) 2)] 46, .sl (gv (qP46 a0.toNat) 2) 42 1 (u45.kids_.map (PR gP46))])) 17 (by kernel_rfl) (Sc.past rfl (Sc.stay (fun _ hw => hw) (Sc.stay (fun _ hw => hw) (Sc.stayD (fun _ hw => hw))))) (Sc.now (by kernel_rfl) (fun _ hw => hw.sel [1, 2, 3, 4] (by decide) rfl)) ?_)
         refine V2.zz [] (Zc.on' (Zc.on' (Zc.fin (fun _ hw => hw)) (fun _ hw => hw.sel [0, 2] (by decide) rfl)) (fun _ hw => hw.sel [0, 3] (by decide) rfl)) (fun hz206 => ?_)
         refine V2.y (i := 18) (Nx2.of [] (by kernel_rfl) rfl hz206) rfl rfl rfl (Y.move rfl) ?_
         refine V2.y (i := 19) (Nx2.of [] (by kernel_rfl) rfl hz206) rfl rfl rfl (Y.extract rfl rfl) ?_
         refine V2.y (i := 20) (Nx2.of [] (by kernel_rfl) rfl hz206) rfl rfl rfl (Y.extract rfl rfl) ?_
         refine V2.zz [22, 24] (Zc.at1 (fun _ hw => hw)) (fun hz208 => ?_)
         refine V2.m (i := 21) (V' := fun _ => el (gv (qP46 a0.toNat) 0) (gx1.toNat * 1)) h (Nx2.of [22, 24] (by kernel_rfl) rfl hz208) rfl rfl rfl (Y.indexM (g := I) (l := u45.keys_) Try.underlying25 sz3 rfl rfl (fun w hw => As.at_ (hw.get (i := 1) rfl))) (fun x209 ex209 h => ?_)
         refine V2.eff (i := 22) (by kernel_rfl) rfl ?_
         refine L.storeSlM (q := 2) (row := I) (vs := [.int .i64 x202]) (j := 0) (u1 := x202) h sz3 rfl rfl rfl rfl rfl (all1 rfl all0) rfl ex209 rfl rfl ?_
         intro l210 el210 h
         refine L.nil (E.toV2 (stC [[24]] [Cls w F [.obj (gP46 a0.toNat) [(gv (qP46 a0.toNat) 0), (gv (qP46 a0.toNat) 1), (gv (qP46 a0.toNat) 2)] 46, .sl (gv (qP46 a0.toNat) 1) 9 1 (u45.texts_.map SR), .sl (gv (qP46 a0.toNat) 2) 42 1 (u45.kids_.map (PR gP46))]] (Cls w F [.obj (gP46 a0.toNat) [(gv (qP46 a0.toNat) 0), (gv (qP46 a0.toNat) 1), (gv (qP46 a0.toNat) 2)] 46, .sl (gv (qP46 a0.toNat) 2) 42 1 (u45.kids_.map (PR gP46))])) 22 (by kernel_rfl) (Sc.past rfl (Sc.stay (fun _ hw => hw) (Sc.stayD (fun _ hw => hw)))) (Sc.now (by kernel_rfl) (fun _ hw => hw.sel [1, 3, 4] (by decide) rfl)) ?_)
         refine V2.zz [24] (Zc.at1 (fun _ hw => hw)) (fun hz212 => ?_)
         refine V2.m (i := 23) (V' := fun _ => el (gv (qP46 a0.toNat) 1) (gx1.toNat * 1)) h (Nx2.of [24] (by kernel_rfl) rfl hz212) rfl rfl rfl (Y.indexM (g := SR) (l := u45.texts_) Try.underlying43 sz9 rfl rfl (fun w hw => As.at_ (hw.get (i := 1) rfl))) (fun x213 ex213 h => ?_)
         refine V2.eff (i := 24) (by kernel_rfl) rfl ?_
         refine L.storeSlM (q := 3) (row := SR) (vs := [st s203]) (j := 0) (u1 := s203) h sz9 rfl rfl rfl rfl rfl (all1 rfl all0) rfl ex213 rfl rfl ?_
         intro l214 el214 h
         refine L.nil (E.toV2 (stC [] [] (Cls w F [.obj (gP46 a0.toNat) [(gv (qP46 a0.toNat) 0), (gv (qP46 a0.toNat) 1), (gv (qP46 a0.toNat) 2)] 46, .sl (gv (qP46 a0.toNat) 2) 42 1 (u45.kids_.map (PR gP46))])) 24 (by kernel_rfl) (Sc.past rfl (Sc.stayD (fun _ hw => hw))) (Sc.atD (fun _ hw => hw.sel [1, 4] (by decide) rfl)) ?_)
         refine V2.done (by kernel_rfl) ?_
         refine E.blockN ?_
         obtain ⟨l215, el215, h⟩ := bind1S h
         refine E.arClose (row := Tnode.rowA gP46) (sub := Tnode.subA gP46) (e := 46) (g := gP46) (gh := q205) (vs' := [(gv (qP46 a0.toNat) 0), (gv (qP46 a0.toNat) 1), (gv (qP46 a0.toNat) 2)]) (hs := []) (hs' := (a0.toNat :: [])) (m' := []) [1, 2, 3, 4, 0] el215 (by decide) rfl (fun _ => List.mem_cons) List.not_mem_nil ?_
         intro q216
         refine E.to (D := Cls w F [ar46 gP46 q216 l215 []]) (fun _ hw => hw) ?_
         exact E.joinJ ⟨l215, q216, rfl, rfl, h⟩ ⟨rfl, rfl, trivial⟩ (fun _ hw => hw)
        ·
         refine L.y rfl (Y.apNil rfl eu45) ?_
         refine L.nil (E.toV2 (stC [[17, 22, 24], [22, 24], [24]] [Cls w F [.obj (gP46 a0.toNat) [(gv (qP46 a0.toNat) 0), (gv (qP46 a0.toNat) 1), (gv (qP46 a0.toNat) 2)] 46, .sl (gv (qP46 a0.toNat) 0) 3 1 (u45.keys_.map I), .sl (gv (qP46 a0.toNat) 1) 9 1 (u45.texts_.map SR), .sl (gv (qP46 a0.toNat) 2) 42 1 (u45.kids_.map (PR gP46)), ar46 gP46 qP46 A46 (a0.toNat :: [])], Cls w F [.obj (gP46 a0.toNat) [(gv (qP46 a0.toNat) 0), (gv (qP46 a0.toNat) 1), (gv (qP46 a0.toNat) 2)] 46, .sl (gv (qP46 a0.toNat) 0) 3 1 (u45.keys_.map I), .sl (gv (qP46 a0.toNat) 1) 9 1 (u45.texts_.map SR), .sl (gv (qP46 a0.toNat) 2) 42 1 (u45.kids_.map (PR gP46))], Cls w F [.obj (gP46 a0.toNat) [(gv (qP46 a0.toNat) 0), (gv (qP46 a0.toNat) 1), (gv (qP46 a0.toNat) 2)] 46, .sl (gv (qP46 a0.toNat) 1) 9 1 (u45.texts_.map SR), .sl (gv (qP46 a0.toNat) 2) 42 1 (u45.kids_.map (PR gP46))]] (Cls w F [.obj (gP46 a0.toNat) [(gv (qP46 a0.toNat) 0), (gv (qP46 a0.toNat) 1), (gv (qP46 a0.toNat) 2)] 46, .sl (gv (qP46 a0.toNat) 2) 42 1 (u45.kids_.map (PR gP46))])) 11 (by kernel_rfl) (Sc.stay (fun _ hw => hw) (Sc.stay (fun _ hw => hw) (Sc.stay (fun _ hw => hw) (Sc.stayD (fun _ hw => hw))))) (Sc.now (by kernel_rfl) (fun _ hw => hw)) ?_)
         refine V2.zz [] (Zc.on' (Zc.on' (Zc.on' (Zc.fin (fun _ hw => hw)) (fun _ hw => hw.sel [0, 2] (by decide) rfl)) (fun _ hw => hw.sel [0, 3] (by decide) rfl)) (fun _ hw => hw.sel [0, 3] (by decide) rfl)) (fun hz220 => ?_)
         refine V2.y (i := 12) (Nx2.of [] (by kernel_rfl) rfl hz220) rfl rfl rfl (Y.fieldP fd46_2 rfl) ?_
         refine V2.y (i := 13) (Nx2.of [] (by kernel_rfl) rfl hz220) rfl rfl rfl (Y.loadP (i := 0) ag44 rfl rfl rfl) ?_
         refine V2.m (i := 15) (V' := fun _ => el (gv (qP46 a0.toNat) 2) (gx1.toNat * 1)) h (Nx2.of [] (by kernel_rfl) rfl hz220) rfl rfl rfl (Y.indexM (g := (PR gP46)) (l := u45.kids_) Try.underlying44 sz42 rfl rfl (fun w hw => As.at_ (hw.get (i := 1) rfl))) (fun x225 ex225 h => ?_)
         refine V2.y (i := 16) (Nx2.of [] (by kernel_rfl) rfl hz220) rfl rfl rfl (Y.loadE1 (u := VP gP46 x225) ag42 rfl (fun w hw => As.at_ (hw.get (i := 1) rfl)) (idx_map ex225)) ?_
         refine V2.eff2 (i1 := 1) (i2 := 17) (by kernel_rfl) rfl rfl ?_ ?_
         ·
          refine L.y rfl (Y.apNil rfl eu45) ?_
          refine L.nil (E.toV2 (stC [[17, 22, 24], [22, 24], [24]] [Cls w F [.obj (gP46 a0.toNat) [(gv (qP46 a0.toNat) 0), (gv (qP46 a0.toNat) 1), (gv (qP46 a0.toNat) 2)] 46, .sl (gv (qP46 a0.toNat) 0) 3 1 (u45.keys_.map I), .sl (gv (qP46 a0.toNat) 1) 9 1 (u45.texts_.map SR), .sl (gv (qP46 a0.toNat) 2) 42 1 (u45.kids_.map (PR gP46)), ar46 gP46 qP46 A46 (a0.toNat :: [])], Cls w F [.obj (gP46 a0.toNat) [(gv (qP46 a0.toNat) 0), (gv (qP46 a0.toNat) 1), (gv (qP46 a0.toNat) 2)] 46, .sl (gv (qP46 a0.toNat) 0) 3 1 (u45.keys_.map I), .sl (gv (qP46 a0.toNat) 1) 9 1 (u45.texts_.map SR), .sl (gv (qP46 a0.toNat) 2) 42 1 (u45.kids_.map (PR gP46))], Cls w F [.obj (gP46 a0.toNat) [(gv (qP46 a0.toNat) 0), (gv (qP46 a0.toNat) 1), (gv (qP46 a0.toNat) 2)] 46, .sl (gv (qP46 a0.toNat) 1) 9 1 (u45.texts_.map SR), .sl (gv (qP46 a0.toNat) 2) 42 1 (u45.kids_.map (PR gP46))]] (Cls w F [.obj (gP46 a0.toNat) [(gv (qP46 a0.toNat) 0), (gv (qP46 a0.toNat) 1), (gv (qP46 a0.toNat) 2)] 46, .sl (gv (qP46 a0.toNat) 2) 42 1 (u45.kids_.map (PR gP46))])) 1 (by kernel_rfl) (Sc.stay (fun _ hw => hw) (Sc.stay (fun _ hw => hw) (Sc.stay (fun _ hw => hw) (Sc.stayD (fun _ hw => hw))))) (Sc.now (by kernel_rfl) (fun _ hw => hw)) ?_)
          refine V2.zz [] (Zc.on' (Zc.on' (Zc.on' (Zc.fin (fun _ hw => hw)) (fun _ hw => hw.sel [0, 2] (by decide) rfl)) (fun _ hw => hw.sel [0, 3] (by decide) rfl)) (fun _ hw => hw.sel [0, 3] (by decide) rfl)) (fun hz230 => ?_)
          refine V2.y (i := 2) (Nx2.of [] (by kernel_rfl) rfl hz230) rfl rfl rfl (Y.fieldP fd46_0 rfl) ?_
          refine V2.y (i := 3) (Nx2.of [] (by kernel_rfl) rfl hz230) rfl rfl rfl (Y.loadP (i := 0) ag25 rfl rfl rfl) ?_
          refine V2.eff (i := 17) (by kernel_rfl) rfl ?_
          refine L.to (D := Cls w F [ar46 gP46 qP46 A46 (a0.toNat :: []), .obj (gP46 a0.toNat) [(gv (qP46 a0.toNat) 0), (gv (qP46 a0.toNat) 1), (gv (qP46 a0.toNat) 2)] 46, .sl (gv (qP46 a0.toNat) 0) 3 1 (u45.keys_.map I), .sl (gv (qP46 a0.toNat) 1) 9 1 (u45.texts_.map SR), .sl (gv (qP46 a0.toNat) 2) 42 1 (u45.kids_.map (PR gP46))]) (fun _ hw => hw.sel [4, 0, 1, 2, 3] (by decide) rfl) ?_
          obtain ⟨l231, x232, s233, e234, h⟩ := bind3S h
          refine L.doesP (A := [ar46 gP46 qP46 A46 (a0.toNat :: [])]) (M := [.obj (gP46 a0.toNat) [(gv (qP46 a0.toNat) 0), (gv (qP46 a0.toNat) 1), (gv (qP46 a0.toNat) 2)] 46, .sl (gv (qP46 a0.toNat) 0) 3 1 (u45.keys_.map I), .sl (gv (qP46 a0.toNat) 1) 9 1 (u45.texts_.map SR), .sl (gv (qP46 a0.toNat) 2) 42 1 (u45.kids_.map (PR gP46))]) rfl en26 rfl (fun w' hw => w26_tree_node_last x225 A46 (a0.toNat :: []) gP46 qP46 w' _ e234 _ hw.lend) ?_
          rintro _ _ ⟨q235, rfl, rfl⟩
          refine L.to (D := Cls w F [ar46 gP46 q235 l231 (a0.toNat :: []), .obj (gP46 a0.toNat) [(gv (qP46 a0.toNat) 0), (gv (qP46 a0.toNat) 1), (gv (qP46 a0.toNat) 2)] 46, .sl (gv (qP46 a0.toNat) 0) 3 1 (u45.keys_.map I), .sl (gv (qP46 a0.toNat) 1) 9 1 (u45.texts_.map SR), .sl (gv (qP46 a0.toNat) 2) 42 1 (u45.kids_.map (PR gP46))]) (fun _ hw => hw) ?_
          refine L.nil (E.toV2 (stC [[22, 24], [24]] [Cls w F [.obj (gP46 a0.toNat) [(gv (qP46 a0.toNat) 0), (gv (qP46 a0.toNat) 1), (gv (qP46 a0.toNat) 2)] 46, .sl (gv (qP46 a0.toNat) 0) 3 1 (u45.keys_.map I), .sl (gv (qP46 a0.toNat) 1) 9 1 (u45.texts_.map SR), .sl (gv (qP46 a0.toNat) 2) 42 1 (u45.kids_.map (PR gP46))], Cls w F [.obj (gP46 a0.toNat) [(gv (qP46 a0.toNat) 0), (gv (qP46 a0.toNat) 1), (gv (qP46 a0.toNat) 2)] 46, .sl (gv (qP46 a0.toNat) 1) 9 1 (u45.texts_.map SR), .sl (gv (qP46 a0.toNat) 2) 42 1 (u45.kids_.map (PR gP46))]] (Cls w F [.obj (gP46 a0.toNat) [(gv (qP46 a0.toNat) 0), (gv (qP46 a0.toNat) 1), (gv (qP46 a0.toNat) 2)] 46, .sl (gv (qP46 a0.toNat) 2) 42 1 (u45.kids_.map (PR gP46))])) 17 (by kernel_rfl) (Sc.past rfl (Sc.stay (fun _ hw => hw) (Sc.stay (fun _ hw => hw) (Sc.stayD (fun _ hw => hw))))) (Sc.now (by kernel_rfl) (fun _ hw => hw.sel [1, 2, 3, 4] (by decide) rfl)) ?_)
          refine V2.zz [] (Zc.on' (Zc.on' (Zc.fin (fun _ hw => hw)) (fun _ hw => hw.sel [0, 2] (by decide) rfl)) (fun _ hw => hw.sel [0, 3] (by decide) rfl)) (fun hz236 => ?_)
          refine V2.y (i := 18) (Nx2.of [] (by kernel_rfl) rfl hz236) rfl rfl rfl (Y.move rfl) ?_
          refine V2.y (i := 19) (Nx2.of [] (by kernel_rfl) rfl hz236) rfl rfl rfl (Y.extract rfl rfl) ?_
          refine V2.y (i := 20) (Nx2.of [] (by kernel_rfl) rfl hz236) rfl rfl rfl (Y.extract rfl rfl) ?_
          refine V2.zz [22, 24] (Zc.at1 (fun _ hw => hw)) (fun hz238 => ?_)
          refine V2.m (i := 21) (V' := fun _ => el (gv (qP46 a0.toNat) 0) (gx1.toNat * 1)) h (Nx2.of [22, 24] (by kernel_rfl) rfl hz238) rfl rfl rfl (Y.indexM (g := I) (l := u45.keys_) Try.underlying25 sz3 rfl rfl (fun w hw => As.at_ (hw.get (i := 1) rfl))) (fun x239 ex239 h => ?_)
          refine V2.eff (i := 22) (by kernel_rfl) rfl ?_
          refine L.storeSlM (q := 2) (row := I) (vs := [.int .i64 x232]) (j := 0) (u1 := x232) h sz3 rfl rfl rfl rfl rfl (all1 rfl all0) rfl ex239 rfl rfl ?_
          intro l240 el240 h
          refine L.nil (E.toV2 (stC [[24]] [Cls w F [.obj (gP46 a0.toNat) [(gv (qP46 a0.toNat) 0), (gv (qP46 a0.toNat) 1), (gv (qP46 a0.toNat) 2)] 46, .sl (gv (qP46 a0.toNat) 1) 9 1 (u45.texts_.map SR), .sl (gv (qP46 a0.toNat) 2) 42 1 (u45.kids_.map (PR gP46))]] (Cls w F [.obj (gP46 a0.toNat) [(gv (qP46 a0.toNat) 0), (gv (qP46 a0.toNat) 1), (gv (qP46 a0.toNat) 2)] 46, .sl (gv (qP46 a0.toNat) 2) 42 1 (u45.kids_.map (PR gP46))])) 22 (by kernel_rfl) (Sc.past rfl (Sc.stay (fun _ hw => hw) (Sc.stayD (fun _ hw => hw)))) (Sc.now (by kernel_rfl) (fun _ hw => hw.sel [1, 3, 4] (by decide) rfl)) ?_)
          refine V2.zz [24] (Zc.at1 (fun _ hw => hw)) (fun hz242 => ?_)
          refine V2.m (i := 23) (V' := fun _ => el (gv (qP46 a0.toNat) 1) (gx1.toNat * 1)) h (Nx2.of [24] (by kernel_rfl) rfl hz242) rfl rfl rfl (Y.indexM (g := SR) (l := u45.texts_) Try.underlying43 sz9 rfl rfl (fun w hw => As.at_ (hw.get (i := 1) rfl))) (fun x243 ex243 h => ?_)
          refine V2.eff (i := 24) (by kernel_rfl) rfl ?_
          refine L.storeSlM (q := 3) (row := SR) (vs := [st s233]) (j := 0) (u1 := s233) h sz9 rfl rfl rfl rfl rfl (all1 rfl all0) rfl ex243 rfl rfl ?_
          intro l244 el244 h
          refine L.nil (E.toV2 (stC [] [] (Cls w F [.obj (gP46 a0.toNat) [(gv (qP46 a0.toNat) 0), (gv (qP46 a0.toNat) 1), (gv (qP46 a0.toNat) 2)] 46, .sl (gv (qP46 a0.toNat) 2) 42 1 (u45.kids_.map (PR gP46))])) 24 (by kernel_rfl) (Sc.past rfl (Sc.stayD (fun _ hw => hw))) (Sc.atD (fun _ hw => hw.sel [1, 4] (by decide) rfl)) ?_)
          refine V2.done (by kernel_rfl) ?_
          refine E.blockN ?_
          obtain ⟨l245, el245, h⟩ := bind1S h
          refine E.arClose (row := Tnode.rowA gP46) (sub := Tnode.subA gP46) (e := 46) (g := gP46) (gh := q235) (vs' := [(gv (qP46 a0.toNat) 0), (gv (qP46 a0.toNat) 1), (gv (qP46 a0.toNat) 2)]) (hs := []) (hs' := (a0.toNat :: [])) (m' := []) [1, 2, 3, 4, 0] el245 (by decide) rfl (fun _ => List.mem_cons) List.not_mem_nil ?_
          intro q246
          refine E.to (D := Cls w F [ar46 gP46 q246 l245 []]) (fun _ hw => hw) ?_
          exact E.joinJ ⟨l245, q246, rfl, rfl, h⟩ ⟨rfl, rfl, trivial⟩ (fun _ hw => hw)
         ·
          refine L.to (D := Cls w F [ar46 gP46 qP46 A46 (a0.toNat :: []), .obj (gP46 a0.toNat) [(gv (qP46 a0.toNat) 0), (gv (qP46 a0.toNat) 1), (gv (qP46 a0.toNat) 2)] 46, .sl (gv (qP46 a0.toNat) 0) 3 1 (u45.keys_.map I), .sl (gv (qP46 a0.toNat) 1) 9 1 (u45.texts_.map SR), .sl (gv (qP46 a0.toNat) 2) 42 1 (u45.kids_.map (PR gP46))]) (fun _ hw => hw.sel [4, 0, 1, 2, 3] (by decide) rfl) ?_
          obtain ⟨l247, x248, s249, e250, h⟩ := bind3S h
          refine L.doesP (A := [ar46 gP46 qP46 A46 (a0.toNat :: [])]) (M := [.obj (gP46 a0.toNat) [(gv (qP46 a0.toNat) 0), (gv (qP46 a0.toNat) 1), (gv (qP46 a0.toNat) 2)] 46, .sl (gv (qP46 a0.toNat) 0) 3 1 (u45.keys_.map I), .sl (gv (qP46 a0.toNat) 1) 9 1 (u45.texts_.map SR), .sl (gv (qP46 a0.toNat) 2) 42 1 (u45.kids_.map (PR gP46))]) rfl en26 rfl (fun w' hw => w26_tree_node_last x225 A46 (a0.toNat :: []) gP46 qP46 w' _ e250 _ hw.lend) ?_
          rintro _ _ ⟨q251, rfl, rfl⟩
          refine L.to (D := Cls w F [ar46 gP46 q251 l247 (a0.toNat :: []), .obj (gP46 a0.toNat) [(gv (qP46 a0.toNat) 0), (gv (qP46 a0.toNat) 1), (gv (qP46 a0.toNat) 2)] 46, .sl (gv (qP46 a0.toNat) 0) 3 1 (u45.keys_.map I), .sl (gv (qP46 a0.toNat) 1) 9 1 (u45.texts_.map SR), .sl (gv (qP46 a0.toNat) 2) 42 1 (u45.kids_.map (PR gP46))]) (fun _ hw => hw) ?_
          refine L.nil (E.toV2 (stC [[22, 24], [24]] [Cls w F [.obj (gP46 a0.toNat) [(gv (qP46 a0.toNat) 0), (gv (qP46 a0.toNat) 1), (gv (qP46 a0.toNat) 2)] 46, .sl (gv (qP46 a0.toNat) 0) 3 1 (u45.keys_.map I), .sl (gv (qP46 a0.toNat) 1) 9 1 (u45.texts_.map SR), .sl (gv (qP46 a0.toNat) 2) 42 1 (u45.kids_.map (PR gP46))], Cls w F [.obj (gP46 a0.toNat) [(gv (qP46 a0.toNat) 0), (gv (qP46 a0.toNat) 1), (gv (qP46 a0.toNat) 2)] 46, .sl (gv (qP46 a0.toNat) 1) 9 1 (u45.texts_.map SR), .sl (gv (qP46 a0.toNat) 2) 42 1 (u45.kids_.map (PR gP46))]] (Cls w F [.obj (gP46 a0.toNat) [(gv (qP46 a0.toNat) 0), (gv (qP46 a0.toNat) 1), (gv (qP46 a0.toNat) 2)] 46, .sl (gv (qP46 a0.toNat) 2) 42 1 (u45.kids_.map (PR gP46))])) 17 (by kernel_rfl) (Sc.past rfl (Sc.stay (fun _ hw => hw) (Sc.stay (fun _ hw => hw) (Sc.stayD (fun _ hw => hw))))) (Sc.now (by kernel_rfl) (fun _ hw => hw.sel [1, 2, 3, 4] (by decide) rfl)) ?_)
          refine V2.zz [] (Zc.on' (Zc.on' (Zc.fin (fun _ hw => hw)) (fun _ hw => hw.sel [0, 2] (by decide) rfl)) (fun _ hw => hw.sel [0, 3] (by decide) rfl)) (fun hz255 => ?_)
          refine V2.y (i := 18) (Nx2.of [] (by kernel_rfl) rfl hz255) rfl rfl rfl (Y.move rfl) ?_
          refine V2.y (i := 19) (Nx2.of [] (by kernel_rfl) rfl hz255) rfl rfl rfl (Y.extract rfl rfl) ?_
          refine V2.y (i := 20) (Nx2.of [] (by kernel_rfl) rfl hz255) rfl rfl rfl (Y.extract rfl rfl) ?_
          refine V2.eff (i := 1) (by kernel_rfl) rfl ?_
          refine L.y rfl (Y.apNil rfl eu45) ?_
          refine L.nil (E.toV2 (stC [[22, 24], [24]] [Cls w F [.obj (gP46 a0.toNat) [(gv (qP46 a0.toNat) 0), (gv (qP46 a0.toNat) 1), (gv (qP46 a0.toNat) 2)] 46, .sl (gv (qP46 a0.toNat) 0) 3 1 (u45.keys_.map I), .sl (gv (qP46 a0.toNat) 1) 9 1 (u45.texts_.map SR), .sl (gv (qP46 a0.toNat) 2) 42 1 (u45.kids_.map (PR gP46))], Cls w F [.obj (gP46 a0.toNat) [(gv (qP46 a0.toNat) 0), (gv (qP46 a0.toNat) 1), (gv (qP46 a0.toNat) 2)] 46, .sl (gv (qP46 a0.toNat) 1) 9 1 (u45.texts_.map SR), .sl (gv (qP46 a0.toNat) 2) 42 1 (u45.kids_.map (PR gP46))]] (Cls w F [.obj (gP46 a0.toNat) [(gv (qP46 a0.toNat) 0), (gv (qP46 a0.toNat) 1), (gv (qP46 a0.toNat) 2)] 46, .sl (gv (qP46 a0.toNat) 2) 42 1 (u45.kids_.map (PR gP46))])) 1 (by kernel_rfl) (Sc.stay (fun _ hw => hw) (Sc.stay (fun _ hw => hw) (Sc.stayD (fun _ hw => hw)))) (Sc.now (by kernel_rfl) (fun _ hw => hw.sel [1, 2, 3, 4] (by decide) rfl)) ?_)
          refine V2.zz [] (Zc.on' (Zc.on' (Zc.fin (fun _ hw => hw)) (fun _ hw => hw.sel [0, 2] (by decide) rfl)) (fun _ hw => hw.sel [0, 3] (by decide) rfl)) (fun hz262 => ?_)
          refine V2.y (i := 2) (Nx2.of [] (by kernel_rfl) rfl hz262) rfl rfl rfl (Y.fieldP fd46_0 rfl) ?_
          refine V2.y (i := 3) (Nx2.of [] (by kernel_rfl) rfl hz262) rfl rfl rfl (Y.loadP (i := 0) ag25 rfl rfl rfl) ?_
          refine V2.zz [22, 24] (Zc.at1 (fun _ hw => hw)) (fun hz264 => ?_)
          refine V2.m (i := 21) (V' := fun _ => el (gv (qP46 a0.toNat) 0) (gx1.toNat * 1)) h (Nx2.of [22, 24] (by kernel_rfl) rfl hz264) rfl rfl rfl (Y.indexM (g := I) (l := u45.keys_) Try.underlying25 sz3 rfl rfl (fun w hw => As.at_ (hw.get (i := 1) rfl))) (fun x265 ex265 h => ?_)
          refine V2.eff (i := 22) (by kernel_rfl) rfl ?_
          refine L.storeSlM (q := 2) (row := I) (vs := [.int .i64 x248]) (j := 0) (u1 := x248) h sz3 rfl rfl rfl rfl rfl (all1 rfl all0) rfl ex265 rfl rfl ?_
          intro l266 el266 h
          refine L.nil (E.toV2 (stC [[24]] [Cls w F [.obj (gP46 a0.toNat) [(gv (qP46 a0.toNat) 0), (gv (qP46 a0.toNat) 1), (gv (qP46 a0.toNat) 2)] 46, .sl (gv (qP46 a0.toNat) 1) 9 1 (u45.texts_.map SR), .sl (gv (qP46 a0.toNat) 2) 42 1 (u45.kids_.map (PR gP46))]] (Cls w F [.obj (gP46 a0.toNat) [(gv (qP46 a0.toNat) 0), (gv (qP46 a0.toNat) 1), (gv (qP46 a0.toNat) 2)] 46, .sl (gv (qP46 a0.toNat) 2) 42 1 (u45.kids_.map (PR gP46))])) 22 (by kernel_rfl) (Sc.past rfl (Sc.stay (fun _ hw => hw) (Sc.stayD (fun _ hw => hw)))) (Sc.now (by kernel_rfl) (fun _ hw => hw.sel [1, 3, 4] (by decide) rfl)) ?_)
          refine V2.zz [24] (Zc.at1 (fun _ hw => hw)) (fun hz268 => ?_)
          refine V2.m (i := 23) (V' := fun _ => el (gv (qP46 a0.toNat) 1) (gx1.toNat * 1)) h (Nx2.of [24] (by kernel_rfl) rfl hz268) rfl rfl rfl (Y.indexM (g := SR) (l := u45.texts_) Try.underlying43 sz9 rfl rfl (fun w hw => As.at_ (hw.get (i := 1) rfl))) (fun x269 ex269 h => ?_)
          refine V2.eff (i := 24) (by kernel_rfl) rfl ?_
          refine L.storeSlM (q := 3) (row := SR) (vs := [st s249]) (j := 0) (u1 := s249) h sz9 rfl rfl rfl rfl rfl (all1 rfl all0) rfl ex269 rfl rfl ?_
          intro l270 el270 h
          refine L.nil (E.toV2 (stC [] [] (Cls w F [.obj (gP46 a0.toNat) [(gv (qP46 a0.toNat) 0), (gv (qP46 a0.toNat) 1), (gv (qP46 a0.toNat) 2)] 46, .sl (gv (qP46 a0.toNat) 2) 42 1 (u45.kids_.map (PR gP46))])) 24 (by kernel_rfl) (Sc.past rfl (Sc.stayD (fun _ hw => hw))) (Sc.atD (fun _ hw => hw.sel [1, 4] (by decide) rfl)) ?_)
          refine V2.done (by kernel_rfl) ?_
          refine E.blockN ?_
          obtain ⟨l271, el271, h⟩ := bind1S h
          refine E.arClose (row := Tnode.rowA gP46) (sub := Tnode.subA gP46) (e := 46) (g := gP46) (gh := q251) (vs' := [(gv (qP46 a0.toNat) 0), (gv (qP46 a0.toNat) 1), (gv (qP46 a0.toNat) 2)]) (hs := []) (hs' := (a0.toNat :: [])) (m' := []) [1, 2, 3, 4, 0] el271 (by decide) rfl (fun _ => List.mem_cons) List.not_mem_nil ?_
          intro q272
          refine E.to (D := Cls w F [ar46 gP46 q272 l271 []]) (fun _ hw => hw) ?_
          exact E.joinJ ⟨l271, q272, rfl, rfl, h⟩ ⟨rfl, rfl, trivial⟩ (fun _ hw => hw)
       ·
        refine L.y rfl (Y.apNil rfl eu45) ?_
        refine L.nil (E.toV2 (stC [[17, 22, 24], [22, 24], [24]] [Cls w F [.obj (gP46 a0.toNat) [(gv (qP46 a0.toNat) 0), (gv (qP46 a0.toNat) 1), (gv (qP46 a0.toNat) 2)] 46, .sl (gv (qP46 a0.toNat) 0) 3 1 (u45.keys_.map I), .sl (gv (qP46 a0.toNat) 1) 9 1 (u45.texts_.map SR), .sl (gv (qP46 a0.toNat) 2) 42 1 (u45.kids_.map (PR gP46)), ar46 gP46 qP46 A46 (a0.toNat :: [])], Cls w F [.obj (gP46 a0.toNat) [(gv (qP46 a0.toNat) 0), (gv (qP46 a0.toNat) 1), (gv (qP46 a0.toNat) 2)] 46, .sl (gv (qP46 a0.toNat) 0) 3 1 (u45.keys_.map I), .sl (gv (qP46 a0.toNat) 1) 9 1 (u45.texts_.map SR), .sl (gv (qP46 a0.toNat) 2) 42 1 (u45.kids_.map (PR gP46))], Cls w F [.obj (gP46 a0.toNat) [(gv (qP46 a0.toNat) 0), (gv (qP46 a0.toNat) 1), (gv (qP46 a0.toNat) 2)] 46, .sl (gv (qP46 a0.toNat) 1) 9 1 (u45.texts_.map SR), .sl (gv (qP46 a0.toNat) 2) 42 1 (u45.kids_.map (PR gP46))]] (Cls w F [.obj (gP46 a0.toNat) [(gv (qP46 a0.toNat) 0), (gv (qP46 a0.toNat) 1), (gv (qP46 a0.toNat) 2)] 46, .sl (gv (qP46 a0.toNat) 2) 42 1 (u45.kids_.map (PR gP46))])) 11 (by kernel_rfl) (Sc.stay (fun _ hw => hw) (Sc.stay (fun _ hw => hw) (Sc.stay (fun _ hw => hw) (Sc.stayD (fun _ hw => hw))))) (Sc.now (by kernel_rfl) (fun _ hw => hw)) ?_)
        refine V2.zz [] (Zc.on' (Zc.on' (Zc.on' (Zc.fin (fun _ hw => hw)) (fun _ hw => hw.sel [0, 2] (by decide) rfl)) (fun _ hw => hw.sel [0, 3] (by decide) rfl)) (fun _ hw => hw.sel [0, 3] (by decide) rfl)) (fun hz278 => ?_)
        refine V2.y (i := 12) (Nx2.of [] (by kernel_rfl) rfl hz278) rfl rfl rfl (Y.fieldP fd46_2 rfl) ?_
        refine V2.y (i := 13) (Nx2.of [] (by kernel_rfl) rfl hz278) rfl rfl rfl (Y.loadP (i := 0) ag44 rfl rfl rfl) ?_
        refine V2.m (i := 15) (V' := fun _ => el (gv (qP46 a0.toNat) 2) (gx1.toNat * 1)) h (Nx2.of [] (by kernel_rfl) rfl hz278) rfl rfl rfl (Y.indexM (g := (PR gP46)) (l := u45.kids_) Try.underlying44 sz42 rfl rfl (fun w hw => As.at_ (hw.get (i := 1) rfl))) (fun x285 ex285 h => ?_)
        refine V2.y (i := 16) (Nx2.of [] (by kernel_rfl) rfl hz278) rfl rfl rfl (Y.loadE1 (u := VP gP46 x285) ag42 rfl (fun w hw => As.at_ (hw.get (i := 1) rfl)) (idx_map ex285)) ?_
        refine V2.eff3 (i1 := 1) (i2 := 6) (i3 := 17) (by kernel_rfl) rfl rfl rfl ?_ ?_ ?_
        ·
         refine L.y rfl (Y.apNil rfl eu45) ?_
         refine L.nil (E.toV2 (stC [[17, 22, 24], [22, 24], [24]] [Cls w F [.obj (gP46 a0.toNat) [(gv (qP46 a0.toNat) 0), (gv (qP46 a0.toNat) 1), (gv (qP46 a0.toNat) 2)] 46, .sl (gv (qP46 a0.toNat) 0) 3 1 (u45.keys_.map I), .sl (gv (qP46 a0.toNat) 1) 9 1 (u45.texts_.map SR), .sl (gv (qP46 a0.toNat) 2) 42 1 (u45.kids_.map (PR gP46)), ar46 gP46 qP46 A46 (a0.toNat :: [])], Cls w F [.obj (gP46 a0.toNat) [(gv (qP46 a0.toNat) 0), (gv (qP46 a0.toNat) 1), (gv (qP46 a0.toNat) 2)] 46, .sl (gv (qP46 a0.toNat) 0) 3 1 (u45.keys_.map I), .sl (gv (qP46 a0.toNat) 1) 9 1 (u45.texts_.map SR), .sl (gv (qP46 a0.toNat) 2) 42 1 (u45.kids_.map (PR gP46))], Cls w F [.obj (gP46 a0.toNat) [(gv (qP46 a0.toNat) 0), (gv (qP46 a0.toNat) 1), (gv (qP46 a0.toNat) 2)] 46, .sl (gv (qP46 a0.toNat) 1) 9 1 (u45.texts_.map SR), .sl (gv (qP46 a0.toNat) 2) 42 1 (u45.kids_.map (PR gP46))]] (Cls w F [.obj (gP46 a0.toNat) [(gv (qP46 a0.toNat) 0), (gv (qP46 a0.toNat) 1), (gv (qP46 a0.toNat) 2)] 46, .sl (gv (qP46 a0.toNat) 2) 42 1 (u45.kids_.map (PR gP46))])) 1 (by kernel_rfl) (Sc.stay (fun _ hw => hw) (Sc.stay (fun _ hw => hw) (Sc.stay (fun _ hw => hw) (Sc.stayD (fun _ hw => hw))))) (Sc.now (by kernel_rfl) (fun _ hw => hw)) ?_)
         refine V2.zz [] (Zc.on' (Zc.on' (Zc.on' (Zc.fin (fun _ hw => hw)) (fun _ hw => hw.sel [0, 2] (by decide) rfl)) (fun _ hw => hw.sel [0, 3] (by decide) rfl)) (fun _ hw => hw.sel [0, 3] (by decide) rfl)) (fun hz292 => ?_)
         refine V2.y (i := 2) (Nx2.of [] (by kernel_rfl) rfl hz292) rfl rfl rfl (Y.fieldP fd46_0 rfl) ?_
         refine V2.y (i := 3) (Nx2.of [] (by kernel_rfl) rfl hz292) rfl rfl rfl (Y.loadP (i := 0) ag25 rfl rfl rfl) ?_
         refine V2.eff2 (i1 := 6) (i2 := 17) (by kernel_rfl) rfl rfl ?_ ?_
         ·
          refine L.y rfl (Y.apNil rfl eu45) ?_
          refine L.nil (E.toV2 (stC [[17, 22, 24], [22, 24], [24]] [Cls w F [.obj (gP46 a0.toNat) [(gv (qP46 a0.toNat) 0), (gv (qP46 a0.toNat) 1), (gv (qP46 a0.toNat) 2)] 46, .sl (gv (qP46 a0.toNat) 0) 3 1 (u45.keys_.map I), .sl (gv (qP46 a0.toNat) 1) 9 1 (u45.texts_.map SR), .sl (gv (qP46 a0.toNat) 2) 42 1 (u45.kids_.map (PR gP46)), ar46 gP46 qP46 A46 (a0.toNat :: [])], Cls w F [.obj (gP46 a0.toNat) [(gv (qP46 a0.toNat) 0), (gv (qP46 a0.toNat) 1), (gv (qP46 a0.toNat) 2)] 46, .sl (gv (qP46 a0.toNat) 0) 3 1 (u45.keys_.map I), .sl (gv (qP46 a0.toNat) 1) 9 1 (u45.texts_.map SR), .sl (gv (qP46 a0.toNat) 2) 42 1 (u45.kids_.map (PR gP46))], Cls w F [.obj (gP46 a0.toNat) [(gv (qP46 a0.toNat) 0), (gv (qP46 a0.toNat) 1), (gv (qP46 a0.toNat) 2)] 46, .sl (gv (qP46 a0.toNat) 1) 9 1 (u45.texts_.map SR), .sl (gv (qP46 a0.toNat) 2) 42 1 (u45.kids_.map (PR gP46))]] (Cls w F [.obj (gP46 a0.toNat) [(gv (qP46 a0.toNat) 0), (gv (qP46 a0.toNat) 1), (gv (qP46 a0.toNat) 2)] 46, .sl (gv (qP46 a0.toNat) 2) 42 1 (u45.kids_.map (PR gP46))])) 6 (by kernel_rfl) (Sc.stay (fun _ hw => hw) (Sc.stay (fun _ hw => hw) (Sc.stay (fun _ hw => hw) (Sc.stayD (fun _ hw => hw))))) (Sc.now (by kernel_rfl) (fun _ hw => hw)) ?_)
          refine V2.zz [] (Zc.on' (Zc.on' (Zc.on' (Zc.fin (fun _ hw => hw)) (fun _ hw => hw.sel [0, 2] (by decide) rfl)) (fun _ hw => hw.sel [0, 3] (by decide) rfl)) (fun _ hw => hw.sel [0, 3] (by decide) rfl)) (fun hz294 => ?_)
          refine V2.y (i := 7) (Nx2.of [] (by kernel_rfl) rfl hz294) rfl rfl rfl (Y.fieldP fd46_1 rfl) ?_
          refine V2.y (i := 8) (Nx2.of [] (by kernel_rfl) rfl hz294) rfl rfl rfl (Y.loadP (i := 0) ag43 rfl rfl rfl) ?_
          refine V2.eff (i := 17) (by kernel_rfl) rfl ?_
          refine L.to (D := Cls w F [ar46 gP46 qP46 A46 (a0.toNat :: []), .obj (gP46 a0.toNat) [(gv (qP46 a0.toNat) 0), (gv (qP46 a0.toNat) 1), (gv (qP46 a0.toNat) 2)] 46, .sl (gv (qP46 a0.toNat) 0) 3 1 (u45.keys_.map I), .sl (gv (qP46 a0.toNat) 1) 9 1 (u45.texts_.map SR), .sl (gv (qP46 a0.toNat) 2) 42 1 (u45.kids_.map (PR gP46))]) (fun _ hw => hw.sel [4, 0, 1, 2, 3] (by decide) rfl) ?_
          obtain ⟨l295, x296, s297, e298, h⟩ := bind3S h
          refine L.doesP (A := [ar46 gP46 qP46 A46 (a0.toNat :: [])]) (M := [.obj (gP46 a0.toNat) [(gv (qP46 a0.toNat) 0), (gv (qP46 a0.toNat) 1), (gv (qP46 a0.toNat) 2)] 46, .sl (gv (qP46 a0.toNat) 0) 3 1 (u45.keys_.map I), .sl (gv (qP46 a0.toNat) 1) 9 1 (u45.texts_.map SR), .sl (gv (qP46 a0.toNat) 2) 42 1 (u45.kids_.map (PR gP46))]) rfl en26 rfl (fun w' hw => w26_tree_node_last x285 A46 (a0.toNat :: []) gP46 qP46 w' _ e298 _ hw.lend) ?_
          rintro _ _ ⟨q299, rfl, rfl⟩
          refine L.to (D := Cls w F [ar46 gP46 q299 l295 (a0.toNat :: []), .obj (gP46 a0.toNat) [(gv (qP46 a0.toNat) 0), (gv (qP46 a0.toNat) 1), (gv (qP46 a0.toNat) 2)] 46, .sl (gv (qP46 a0.toNat) 0) 3 1 (u45.keys_.map I), .sl (gv (qP46 a0.toNat) 1) 9 1 (u45.texts_.map SR), .sl (gv (qP46 a0.toNat) 2) 42 1 (u45.kids_.map (PR gP46))]) (fun _ hw => hw) ?_
          refine L.nil (E.toV2 (stC [[22, 24], [24]] [Cls w F [.obj (gP46 a0.toNat) [(gv (qP46 a0.toNat) 0), (gv (qP46 a0.toNat) 1), (gv (qP46 a0.toNat) 2)] 46, .sl (gv (qP46 a0.toNat) 0) 3 1 (u45.keys_.map I), .sl (gv (qP46 a0.toNat) 1) 9 1 (u45.texts_.map SR), .sl (gv (qP46 a0.toNat) 2) 42 1 (u45.kids_.map (PR gP46))], Cls w F [.obj (gP46 a0.toNat) [(gv (qP46 a0.toNat) 0), (gv (qP46 a0.toNat) 1), (gv (qP46 a0.toNat) 2)] 46, .sl (gv (qP46 a0.toNat) 1) 9 1 (u45.texts_.map SR), .sl (gv (qP46 a0.toNat) 2) 42 1 (u45.kids_.map (PR gP46))]] (Cls w F [.obj (gP46 a0.toNat) [(gv (qP46 a0.toNat) 0), (gv (qP46 a0.toNat) 1), (gv (qP46 a0.toNat) 2)] 46, .sl (gv (qP46 a0.toNat) 2) 42 1 (u45.kids_.map (PR gP46))])) 17 (by kernel_rfl) (Sc.past rfl (Sc.stay (fun _ hw => hw) (Sc.stay (fun _ hw => hw) (Sc.stayD (fun _ hw => hw))))) (Sc.now (by kernel_rfl) (fun _ hw => hw.sel [1, 2, 3, 4] (by decide) rfl)) ?_)
          refine V2.zz [] (Zc.on' (Zc.on' (Zc.fin (fun _ hw => hw)) (fun _ hw => hw.sel [0, 2] (by decide) rfl)) (fun _ hw => hw.sel [0, 3] (by decide) rfl)) (fun hz300 => ?_)
          refine V2.y (i := 18) (Nx2.of [] (by kernel_rfl) rfl hz300) rfl rfl rfl (Y.move rfl) ?_
          refine V2.y (i := 19) (Nx2.of [] (by kernel_rfl) rfl hz300) rfl rfl rfl (Y.extract rfl rfl) ?_
          refine V2.y (i := 20) (Nx2.of [] (by kernel_rfl) rfl hz300) rfl rfl rfl (Y.extract rfl rfl) ?_
          refine V2.zz [22, 24] (Zc.at1 (fun _ hw => hw)) (fun hz302 => ?_)
          refine V2.m (i := 21) (V' := fun _ => el (gv (qP46 a0.toNat) 0) (gx1.toNat * 1)) h (Nx2.of [22, 24] (by kernel_rfl) rfl hz302) rfl rfl rfl (Y.indexM (g := I) (l := u45.keys_) Try.underlying25 sz3 rfl rfl (fun w hw => As.at_ (hw.get (i := 1) rfl))) (fun x303 ex303 h => ?_)
          refine V2.eff (i := 22) (by kernel_rfl) rfl ?_
          refine L.storeSlM (q := 2) (row := I) (vs := [.int .i64 x296]) (j := 0) (u1 := x296) h sz3 rfl rfl rfl rfl rfl (all1 rfl all0) rfl ex303 rfl rfl ?_
          intro l304 el304 h
          refine L.nil (E.toV2 (stC [[24]] [Cls w F [.obj (gP46 a0.toNat) [(gv (qP46 a0.toNat) 0), (gv (qP46 a0.toNat) 1), (gv (qP46 a0.toNat) 2)] 46, .sl (gv (qP46 a0.toNat) 1) 9 1 (u45.texts_.map SR), .sl (gv (qP46 a0.toNat) 2) 42 1 (u45.kids_.map (PR gP46))]] (Cls w F [.obj (gP46 a0.toNat) [(gv (qP46 a0.toNat) 0), (gv (qP46 a0.toNat) 1), (gv (qP46 a0.toNat) 2)] 46, .sl (gv (qP46 a0.toNat) 2) 42 1 (u45.kids_.map (PR gP46))])) 22 (by kernel_rfl) (Sc.past rfl (Sc.stay (fun _ hw => hw) (Sc.stayD (fun _ hw => hw)))) (Sc.now (by kernel_rfl) (fun _ hw => hw.sel [1, 3, 4] (by decide) rfl)) ?_)
          refine V2.zz [24] (Zc.at1 (fun _ hw => hw)) (fun hz306 => ?_)
          refine V2.m (i := 23) (V' := fun _ => el (gv (qP46 a0.toNat) 1) (gx1.toNat * 1)) h (Nx2.of [24] (by kernel_rfl) rfl hz306) rfl rfl rfl (Y.indexM (g := SR) (l := u45.texts_) Try.underlying43 sz9 rfl rfl (fun w hw => As.at_ (hw.get (i := 1) rfl))) (fun x307 ex307 h => ?_)
          refine V2.eff (i := 24) (by kernel_rfl) rfl ?_
          refine L.storeSlM (q := 3) (row := SR) (vs := [st s297]) (j := 0) (u1 := s297) h sz9 rfl rfl rfl rfl rfl (all1 rfl all0) rfl ex307 rfl rfl ?_
          intro l308 el308 h
          refine L.nil (E.toV2 (stC [] [] (Cls w F [.obj (gP46 a0.toNat) [(gv (qP46 a0.toNat) 0), (gv (qP46 a0.toNat) 1), (gv (qP46 a0.toNat) 2)] 46, .sl (gv (qP46 a0.toNat) 2) 42 1 (u45.kids_.map (PR gP46))])) 24 (by kernel_rfl) (Sc.past rfl (Sc.stayD (fun _ hw => hw))) (Sc.atD (fun _ hw => hw.sel [1, 4] (by decide) rfl)) ?_)
          refine V2.done (by kernel_rfl) ?_
          refine E.blockN ?_
          obtain ⟨l309, el309, h⟩ := bind1S h
          refine E.arClose (row := Tnode.rowA gP46) (sub := Tnode.subA gP46) (e := 46) (g := gP46) (gh := q299) (vs' := [(gv (qP46 a0.toNat) 0), (gv (qP46 a0.toNat) 1), (gv (qP46 a0.toNat) 2)]) (hs := []) (hs' := (a0.toNat :: [])) (m' := []) [1, 2, 3, 4, 0] el309 (by decide) rfl (fun _ => List.mem_cons) List.not_mem_nil ?_
          intro q310
          refine E.to (D := Cls w F [ar46 gP46 q310 l309 []]) (fun _ hw => hw) ?_
          exact E.joinJ ⟨l309, q310, rfl, rfl, h⟩ ⟨rfl, rfl, trivial⟩ (fun _ hw => hw)
         ·
          refine L.to (D := Cls w F [ar46 gP46 qP46 A46 (a0.toNat :: []), .obj (gP46 a0.toNat) [(gv (qP46 a0.toNat) 0), (gv (qP46 a0.toNat) 1), (gv (qP46 a0.toNat) 2)] 46, .sl (gv (qP46 a0.toNat) 0) 3 1 (u45.keys_.map I), .sl (gv (qP46 a0.toNat) 1) 9 1 (u45.texts_.map SR), .sl (gv (qP46 a0.toNat) 2) 42 1 (u45.kids_.map (PR gP46))]) (fun _ hw => hw.sel [4, 0, 1, 2, 3] (by decide) rfl) ?_
          obtain ⟨l311, x312, s313, e314, h⟩ := bind3S h
          refine L.doesP (A := [ar46 gP46 qP46 A46 (a0.toNat :: [])]) (M := [.obj (gP46 a0.toNat) [(gv (qP46 a0.toNat) 0), (gv (qP46 a0.toNat) 1), (gv (qP46 a0.toNat) 2)] 46, .sl (gv (qP46 a0.toNat) 0) 3 1 (u45.keys_.map I), .sl (gv (qP46 a0.toNat) 1) 9 1 (u45.texts_.map SR), .sl (gv (qP46 a0.toNat) 2) 42 1 (u45.kids_.map (PR gP46))]) rfl en26 rfl (fun w' hw => w26_tree_node_last x285 A46 (a0.toNat :: []) gP46 qP46 w' _ e314 _ hw.lend) ?_
          rintro _ _ ⟨q315, rfl, rfl⟩
          refine L.to (D := Cls w F [ar46 gP46 q315 l311 (a0.toNat :: []), .obj (gP46 a0.toNat) [(gv (qP46 a0.toNat) 0), (gv (qP46 a0.toNat) 1), (gv (qP46 a0.toNat) 2)] 46, .sl (gv (qP46 a0.toNat) 0) 3 1 (u45.keys_.map I), .sl (gv (qP46 a0.toNat) 1) 9 1 (u45.texts_.map SR), .sl (gv (qP46 a0.toNat) 2) 42 1 (u45.kids_.map (PR gP46))]) (fun _ hw => hw) ?_
          refine L.nil (E.toV2 (stC [[22, 24], [24]] [Cls w F [.obj (gP46 a0.toNat) [(gv (qP46 a0.toNat) 0), (gv (qP46 a0.toNat) 1), (gv (qP46 a0.toNat) 2)] 46, .sl (gv (qP46 a0.toNat) 0) 3 1 (u45.keys_.map I), .sl (gv (qP46 a0.toNat) 1) 9 1 (u45.texts_.map SR), .sl (gv (qP46 a0.toNat) 2) 42 1 (u45.kids_.map (PR gP46))], Cls w F [.obj (gP46 a0.toNat) [(gv (qP46 a0.toNat) 0), (gv (qP46 a0.toNat) 1), (gv (qP46 a0.toNat) 2)] 46, .sl (gv (qP46 a0.toNat) 1) 9 1 (u45.texts_.map SR), .sl (gv (qP46 a0.toNat) 2) 42 1 (u45.kids_.map (PR gP46))]] (Cls w F [.obj (gP46 a0.toNat) [(gv (qP46 a0.toNat) 0), (gv (qP46 a0.toNat) 1), (gv (qP46 a0.toNat) 2)] 46, .sl (gv (qP46 a0.toNat) 2) 42 1 (u45.kids_.map (PR gP46))])) 17 (by kernel_rfl) (Sc.past rfl (Sc.stay (fun _ hw => hw) (Sc.stay (fun _ hw => hw) (Sc.stayD (fun _ hw => hw))))) (Sc.now (by kernel_rfl) (fun _ hw => hw.sel [1, 2, 3, 4] (by decide) rfl)) ?_)
          refine V2.zz [] (Zc.on' (Zc.on' (Zc.fin (fun _ hw => hw)) (fun _ hw => hw.sel [0, 2] (by decide) rfl)) (fun _ hw => hw.sel [0, 3] (by decide) rfl)) (fun hz318 => ?_)
          refine V2.y (i := 18) (Nx2.of [] (by kernel_rfl) rfl hz318) rfl rfl rfl (Y.move rfl) ?_
          refine V2.y (i := 19) (Nx2.of [] (by kernel_rfl) rfl hz318) rfl rfl rfl (Y.extract rfl rfl) ?_
          refine V2.y (i := 20) (Nx2.of [] (by kernel_rfl) rfl hz318) rfl rfl rfl (Y.extract rfl rfl) ?_
          refine V2.eff (i := 6) (by kernel_rfl) rfl ?_
          refine L.y rfl (Y.apNil rfl eu45) ?_
          refine L.nil (E.toV2 (stC [[22, 24], [24]] [Cls w F [.obj (gP46 a0.toNat) [(gv (qP46 a0.toNat) 0), (gv (qP46 a0.toNat) 1), (gv (qP46 a0.toNat) 2)] 46, .sl (gv (qP46 a0.toNat) 0) 3 1 (u45.keys_.map I), .sl (gv (qP46 a0.toNat) 1) 9 1 (u45.texts_.map SR), .sl (gv (qP46 a0.toNat) 2) 42 1 (u45.kids_.map (PR gP46))], Cls w F [.obj (gP46 a0.toNat) [(gv (qP46 a0.toNat) 0), (gv (qP46 a0.toNat) 1), (gv (qP46 a0.toNat) 2)] 46, .sl (gv (qP46 a0.toNat) 1) 9 1 (u45.texts_.map SR), .sl (gv (qP46 a0.toNat) 2) 42 1 (u45.kids_.map (PR gP46))]] (Cls w F [.obj (gP46 a0.toNat) [(gv (qP46 a0.toNat) 0), (gv (qP46 a0.toNat) 1), (gv (qP46 a0.toNat) 2)] 46, .sl (gv (qP46 a0.toNat) 2) 42 1 (u45.kids_.map (PR gP46))])) 6 (by kernel_rfl) (Sc.stay (fun _ hw => hw) (Sc.stay (fun _ hw => hw) (Sc.stayD (fun _ hw => hw)))) (Sc.now (by kernel_rfl) (fun _ hw => hw.sel [1, 2, 3, 4] (by decide) rfl)) ?_)
          refine V2.zz [] (Zc.on' (Zc.on' (Zc.fin (fun _ hw => hw)) (fun _ hw => hw.sel [0, 2] (by decide) rfl)) (fun _ hw => hw.sel [0, 3] (by decide) rfl)) (fun hz322 => ?_)
          refine V2.y (i := 7) (Nx2.of [] (by kernel_rfl) rfl hz322) rfl rfl rfl (Y.fieldP fd46_1 rfl) ?_
          refine V2.y (i := 8) (Nx2.of [] (by kernel_rfl) rfl hz322) rfl rfl rfl (Y.loadP (i := 0) ag43 rfl rfl rfl) ?_
          refine V2.zz [22, 24] (Zc.at1 (fun _ hw => hw)) (fun hz324 => ?_)
          refine V2.m (i := 21) (V' := fun _ => el (gv (qP46 a0.toNat) 0) (gx1.toNat * 1)) h (Nx2.of [22, 24] (by kernel_rfl) rfl hz324) rfl rfl rfl (Y.indexM (g := I) (l := u45.keys_) Try.underlying25 sz3 rfl rfl (fun w hw => As.at_ (hw.get (i := 1) rfl))) (fun x325 ex325 h => ?_)
          refine V2.eff (i := 22) (by kernel_rfl) rfl ?_
          refine L.storeSlM (q := 2) (row := I) (vs := [.int .i64 x312]) (j := 0) (u1 := x312) h sz3 rfl rfl rfl rfl rfl (all1 rfl all0) rfl ex325 rfl rfl ?_
          intro l326 el326 h
          refine L.nil (E.toV2 (stC [[24]] [Cls w F [.obj (gP46 a0.toNat) [(gv (qP46 a0.toNat) 0), (gv (qP46 a0.toNat) 1), (gv (qP46 a0.toNat) 2)] 46, .sl (gv (qP46 a0.toNat) 1) 9 1 (u45.texts_.map SR), .sl (gv (qP46 a0.toNat) 2) 42 1 (u45.kids_.map (PR gP46))]] (Cls w F [.obj (gP46 a0.toNat) [(gv (qP46 a0.toNat) 0), (gv (qP46 a0.toNat) 1), (gv (qP46 a0.toNat) 2)] 46, .sl (gv (qP46 a0.toNat) 2) 42 1 (u45.kids_.map (PR gP46))])) 22 (by kernel_rfl) (Sc.past rfl (Sc.stay (fun _ hw => hw) (Sc.stayD (fun _ hw => hw)))) (Sc.now (by kernel_rfl) (fun _ hw => hw.sel [1, 3, 4] (by decide) rfl)) ?_)
          refine V2.zz [24] (Zc.at1 (fun _ hw => hw)) (fun hz328 => ?_)
          refine V2.m (i := 23) (V' := fun _ => el (gv (qP46 a0.toNat) 1) (gx1.toNat * 1)) h (Nx2.of [24] (by kernel_rfl) rfl hz328) rfl rfl rfl (Y.indexM (g := SR) (l := u45.texts_) Try.underlying43 sz9 rfl rfl (fun w hw => As.at_ (hw.get (i := 1) rfl))) (fun x329 ex329 h => ?_)
          refine V2.eff (i := 24) (by kernel_rfl) rfl ?_
          refine L.storeSlM (q := 3) (row := SR) (vs := [st s313]) (j := 0) (u1 := s313) h sz9 rfl rfl rfl rfl rfl (all1 rfl all0) rfl ex329 rfl rfl ?_
          intro l330 el330 h
          refine L.nil (E.toV2 (stC [] [] (Cls w F [.obj (gP46 a0.toNat) [(gv (qP46 a0.toNat) 0), (gv (qP46 a0.toNat) 1), (gv (qP46 a0.toNat) 2)] 46, .sl (gv (qP46 a0.toNat) 2) 42 1 (u45.kids_.map (PR gP46))])) 24 (by kernel_rfl) (Sc.past rfl (Sc.stayD (fun _ hw => hw))) (Sc.atD (fun _ hw => hw.sel [1, 4] (by decide) rfl)) ?_)
          refine V2.done (by kernel_rfl) ?_
          refine E.blockN ?_
          obtain ⟨l331, el331, h⟩ := bind1S h
          refine E.arClose (row := Tnode.rowA gP46) (sub := Tnode.subA gP46) (e := 46) (g := gP46) (gh := q315) (vs' := [(gv (qP46 a0.toNat) 0), (gv (qP46 a0.toNat) 1), (gv (qP46 a0.toNat) 2)]) (hs := []) (hs' := (a0.toNat :: [])) (m' := []) [1, 2, 3, 4, 0] el331 (by decide) rfl (fun _ => List.mem_cons) List.not_mem_nil ?_
          intro q332
          refine E.to (D := Cls w F [ar46 gP46 q332 l331 []]) (fun _ hw => hw) ?_
          exact E.joinJ ⟨l331, q332, rfl, rfl, h⟩ ⟨rfl, rfl, trivial⟩ (fun _ hw => hw)
        ·
         refine L.y rfl (Y.apNil rfl eu45) ?_
         refine L.nil (E.toV2 (stC [[17, 22, 24], [22, 24], [24]] [Cls w F [.obj (gP46 a0.toNat) [(gv (qP46 a0.toNat) 0), (gv (qP46 a0.toNat) 1), (gv (qP46 a0.toNat) 2)] 46, .sl (gv (qP46 a0.toNat) 0) 3 1 (u45.keys_.map I), .sl (gv (qP46 a0.toNat) 1) 9 1 (u45.texts_.map SR), .sl (gv (qP46 a0.toNat) 2) 42 1 (u45.kids_.map (PR gP46)), ar46 gP46 qP46 A46 (a0.toNat :: [])], Cls w F [.obj (gP46 a0.toNat) [(gv (qP46 a0.toNat) 0), (gv (qP46 a0.toNat) 1), (gv (qP46 a0.toNat) 2)] 46, .sl (gv (qP46 a0.toNat) 0) 3 1 (u45.keys_.map I), .sl (gv (qP46 a0.toNat) 1) 9 1 (u45.texts_.map SR), .sl (gv (qP46 a0.toNat) 2) 42 1 (u45.kids_.map (PR gP46))], Cls w F [.obj (gP46 a0.toNat) [(gv (qP46 a0.toNat) 0), (gv (qP46 a0.toNat) 1), (gv (qP46 a0.toNat) 2)] 46, .sl (gv (qP46 a0.toNat) 1) 9 1 (u45.texts_.map SR), .sl (gv (qP46 a0.toNat) 2) 42 1 (u45.kids_.map (PR gP46))]] (Cls w F [.obj (gP46 a0.toNat) [(gv (qP46 a0.toNat) 0), (gv (qP46 a0.toNat) 1), (gv (qP46 a0.toNat) 2)] 46, .sl (gv (qP46 a0.toNat) 2) 42 1 (u45.kids_.map (PR gP46))])) 6 (by kernel_rfl) (Sc.stay (fun _ hw => hw) (Sc.stay (fun _ hw => hw) (Sc.stay (fun _ hw => hw) (Sc.stayD (fun _ hw => hw))))) (Sc.now (by kernel_rfl) (fun _ hw => hw)) ?_)
         refine V2.zz [] (Zc.on' (Zc.on' (Zc.on' (Zc.fin (fun _ hw => hw)) (fun _ hw => hw.sel [0, 2] (by decide) rfl)) (fun _ hw => hw.sel [0, 3] (by decide) rfl)) (fun _ hw => hw.sel [0, 3] (by decide) rfl)) (fun hz336 => ?_)
         refine V2.y (i := 7) (Nx2.of [] (by kernel_rfl) rfl hz336) rfl rfl rfl (Y.fieldP fd46_1 rfl) ?_
         refine V2.y (i := 8) (Nx2.of [] (by kernel_rfl) rfl hz336) rfl rfl rfl (Y.loadP (i := 0) ag43 rfl rfl rfl) ?_
         refine V2.eff2 (i1 := 1) (i2 := 17) (by kernel_rfl) rfl rfl ?_ ?_
         ·
          refine L.y rfl (Y.apNil rfl eu45) ?_
          refine L.nil (E.toV2 (stC [[17, 22, 24], [22, 24], [24]] [Cls w F [.obj (gP46 a0.toNat) [(gv (qP46 a0.toNat) 0), (gv (qP46 a0.toNat) 1), (gv (qP46 a0.toNat) 2)] 46, .sl (gv (qP46 a0.toNat) 0) 3 1 (u45.keys_.map I), .sl (gv (qP46 a0.toNat) 1) 9 1 (u45.texts_.map SR), .sl (gv (qP46 a0.toNat) 2) 42 1 (u45.kids_.map (PR gP46)), ar46 gP46 qP46 A46 (a0.toNat :: [])], Cls w F [.obj (gP46 a0.toNat) [(gv (qP46 a0.toNat) 0), (gv (qP46 a0.toNat) 1), (gv (qP46 a0.toNat) 2)] 46, .sl (gv (qP46 a0.toNat) 0) 3 1 (u45.keys_.map I), .sl (gv (qP46 a0.toNat) 1) 9 1 (u45.texts_.map SR), .sl (gv (qP46 a0.toNat) 2) 42 1 (u45.kids_.map (PR gP46))], Cls w F [.obj (gP46 a0.toNat) [(gv (qP46 a0.toNat) 0), (gv (qP46 a0.toNat) 1), (gv (qP46 a0.toNat) 2)] 46, .sl (gv (qP46 a0.toNat) 1) 9 1 (u45.texts_.map SR), .sl (gv (qP46 a0.toNat) 2) 42 1 (u45.kids_.map (PR gP46))]] (Cls w F [.obj (gP46 a0.toNat) [(gv (qP46 a0.toNat) 0), (gv (qP46 a0.toNat) 1), (gv (qP46 a0.toNat) 2)] 46, .sl (gv (qP46 a0.toNat) 2) 42 1 (u45.kids_.map (PR gP46))])) 1 (by kernel_rfl) (Sc.stay (fun _ hw => hw) (Sc.stay (fun _ hw => hw) (Sc.stay (fun _ hw => hw) (Sc.stayD (fun _ hw => hw))))) (Sc.now (by kernel_rfl) (fun _ hw => hw)) ?_)
          refine V2.zz [] (Zc.on' (Zc.on' (Zc.on' (Zc.fin (fun _ hw => hw)) (fun _ hw => hw.sel [0, 2] (by decide) rfl)) (fun _ hw => hw.sel [0, 3] (by decide) rfl)) (fun _ hw => hw.sel [0, 3] (by decide) rfl)) (fun hz341 => ?_)
          refine V2.y (i := 2) (Nx2.of [] (by kernel_rfl) rfl hz341) rfl rfl rfl (Y.fieldP fd46_0 rfl) ?_
          refine V2.y (i := 3) (Nx2.of [] (by kernel_rfl) rfl hz341) rfl rfl rfl (Y.loadP (i := 0) ag25 rfl rfl rfl) ?_
          refine V2.eff (i := 17) (by kernel_rfl) rfl ?_
          refine L.to (D := Cls w F [ar46 gP46 qP46 A46 (a0.toNat :: []), .obj (gP46 a0.toNat) [(gv (qP46 a0.toNat) 0), (gv (qP46 a0.toNat) 1), (gv (qP46 a0.toNat) 2)] 46, .sl (gv (qP46 a0.toNat) 0) 3 1 (u45.keys_.map I), .sl (gv (qP46 a0.toNat) 1) 9 1 (u45.texts_.map SR), .sl (gv (qP46 a0.toNat) 2) 42 1 (u45.kids_.map (PR gP46))]) (fun _ hw => hw.sel [4, 0, 1, 2, 3] (by decide) rfl) ?_
          obtain ⟨l342, x343, s344, e345, h⟩ := bind3S h
          refine L.doesP (A := [ar46 gP46 qP46 A46 (a0.toNat :: [])]) (M := [.obj (gP46 a0.toNat) [(gv (qP46 a0.toNat) 0), (gv (qP46 a0.toNat) 1), (gv (qP46 a0.toNat) 2)] 46, .sl (gv (qP46 a0.toNat) 0) 3 1 (u45.keys_.map I), .sl (gv (qP46 a0.toNat) 1) 9 1 (u45.texts_.map SR), .sl (gv (qP46 a0.toNat) 2) 42 1 (u45.kids_.map (PR gP46))]) rfl en26 rfl (fun w' hw => w26_tree_node_last x285 A46 (a0.toNat :: []) gP46 qP46 w' _ e345 _ hw.lend) ?_
          rintro _ _ ⟨q346, rfl, rfl⟩
          refine L.to (D := Cls w F [ar46 gP46 q346 l342 (a0.toNat :: []), .obj (gP46 a0.toNat) [(gv (qP46 a0.toNat) 0), (gv (qP46 a0.toNat) 1), (gv (qP46 a0.toNat) 2)] 46, .sl (gv (qP46 a0.toNat) 0) 3 1 (u45.keys_.map I), .sl (gv (qP46 a0.toNat) 1) 9 1 (u45.texts_.map SR), .sl (gv (qP46 a0.toNat) 2) 42 1 (u45.kids_.map (PR gP46))]) (fun _ hw => hw) ?_
          refine L.nil (E.toV2 (stC [[22, 24], [24]] [Cls w F [.obj (gP46 a0.toNat) [(gv (qP46 a0.toNat) 0), (gv (qP46 a0.toNat) 1), (gv (qP46 a0.toNat) 2)] 46, .sl (gv (qP46 a0.toNat) 0) 3 1 (u45.keys_.map I), .sl (gv (qP46 a0.toNat) 1) 9 1 (u45.texts_.map SR), .sl (gv (qP46 a0.toNat) 2) 42 1 (u45.kids_.map (PR gP46))], Cls w F [.obj (gP46 a0.toNat) [(gv (qP46 a0.toNat) 0), (gv (qP46 a0.toNat) 1), (gv (qP46 a0.toNat) 2)] 46, .sl (gv (qP46 a0.toNat) 1) 9 1 (u45.texts_.map SR), .sl (gv (qP46 a0.toNat) 2) 42 1 (u45.kids_.map (PR gP46))]] (Cls w F [.obj (gP46 a0.toNat) [(gv (qP46 a0.toNat) 0), (gv (qP46 a0.toNat) 1), (gv (qP46 a0.toNat) 2)] 46, .sl (gv (qP46 a0.toNat) 2) 42 1 (u45.kids_.map (PR gP46))])) 17 (by kernel_rfl) (Sc.past rfl (Sc.stay (fun _ hw => hw) (Sc.stay (fun _ hw => hw) (Sc.stayD (fun _ hw => hw))))) (Sc.now (by kernel_rfl) (fun _ hw => hw.sel [1, 2, 3, 4] (by decide) rfl)) ?_)
          refine V2.zz [] (Zc.on' (Zc.on' (Zc.fin (fun _ hw => hw)) (fun _ hw => hw.sel [0, 2] (by decide) rfl)) (fun _ hw => hw.sel [0, 3] (by decide) rfl)) (fun hz347 => ?_)
          refine V2.y (i := 18) (Nx2.of [] (by kernel_rfl) rfl hz347) rfl rfl rfl (Y.move rfl) ?_
          refine V2.y (i := 19) (Nx2.of [] (by kernel_rfl) rfl hz347) rfl rfl rfl (Y.extract rfl rfl) ?_
          refine V2.y (i := 20) (Nx2.of [] (by kernel_rfl) rfl hz347) rfl rfl rfl (Y.extract rfl rfl) ?_
          refine V2.zz [22, 24] (Zc.at1 (fun _ hw => hw)) (fun hz349 => ?_)
          refine V2.m (i := 21) (V' := fun _ => el (gv (qP46 a0.toNat) 0) (gx1.toNat * 1)) h (Nx2.of [22, 24] (by kernel_rfl) rfl hz349) rfl rfl rfl (Y.indexM (g := I) (l := u45.keys_) Try.underlying25 sz3 rfl rfl (fun w hw => As.at_ (hw.get (i := 1) rfl))) (fun x350 ex350 h => ?_)
          refine V2.eff (i := 22) (by kernel_rfl) rfl ?_
          refine L.storeSlM (q := 2) (row := I) (vs := [.int .i64 x343]) (j := 0) (u1 := x343) h sz3 rfl rfl rfl rfl rfl (all1 rfl all0) rfl ex350 rfl rfl ?_
          intro l351 el351 h
          refine L.nil (E.toV2 (stC [[24]] [Cls w F [.obj (gP46 a0.toNat) [(gv (qP46 a0.toNat) 0), (gv (qP46 a0.toNat) 1), (gv (qP46 a0.toNat) 2)] 46, .sl (gv (qP46 a0.toNat) 1) 9 1 (u45.texts_.map SR), .sl (gv (qP46 a0.toNat) 2) 42 1 (u45.kids_.map (PR gP46))]] (Cls w F [.obj (gP46 a0.toNat) [(gv (qP46 a0.toNat) 0), (gv (qP46 a0.toNat) 1), (gv (qP46 a0.toNat) 2)] 46, .sl (gv (qP46 a0.toNat) 2) 42 1 (u45.kids_.map (PR gP46))])) 22 (by kernel_rfl) (Sc.past rfl (Sc.stay (fun _ hw => hw) (Sc.stayD (fun _ hw => hw)))) (Sc.now (by kernel_rfl) (fun _ hw => hw.sel [1, 3, 4] (by decide) rfl)) ?_)
          refine V2.zz [24] (Zc.at1 (fun _ hw => hw)) (fun hz353 => ?_)
          refine V2.m (i := 23) (V' := fun _ => el (gv (qP46 a0.toNat) 1) (gx1.toNat * 1)) h (Nx2.of [24] (by kernel_rfl) rfl hz353) rfl rfl rfl (Y.indexM (g := SR) (l := u45.texts_) Try.underlying43 sz9 rfl rfl (fun w hw => As.at_ (hw.get (i := 1) rfl))) (fun x354 ex354 h => ?_)
          refine V2.eff (i := 24) (by kernel_rfl) rfl ?_
          refine L.storeSlM (q := 3) (row := SR) (vs := [st s344]) (j := 0) (u1 := s344) h sz9 rfl rfl rfl rfl rfl (all1 rfl all0) rfl ex354 rfl rfl ?_
          intro l355 el355 h
          refine L.nil (E.toV2 (stC [] [] (Cls w F [.obj (gP46 a0.toNat) [(gv (qP46 a0.toNat) 0), (gv (qP46 a0.toNat) 1), (gv (qP46 a0.toNat) 2)] 46, .sl (gv (qP46 a0.toNat) 2) 42 1 (u45.kids_.map (PR gP46))])) 24 (by kernel_rfl) (Sc.past rfl (Sc.stayD (fun _ hw => hw))) (Sc.atD (fun _ hw => hw.sel [1, 4] (by decide) rfl)) ?_)
          refine V2.done (by kernel_rfl) ?_
          refine E.blockN ?_
          obtain ⟨l356, el356, h⟩ := bind1S h
          refine E.arClose (row := Tnode.rowA gP46) (sub := Tnode.subA gP46) (e := 46) (g := gP46) (gh := q346) (vs' := [(gv (qP46 a0.toNat) 0), (gv (qP46 a0.toNat) 1), (gv (qP46 a0.toNat) 2)]) (hs := []) (hs' := (a0.toNat :: [])) (m' := []) [1, 2, 3, 4, 0] el356 (by decide) rfl (fun _ => List.mem_cons) List.not_mem_nil ?_
          intro q357
          refine E.to (D := Cls w F [ar46 gP46 q357 l356 []]) (fun _ hw => hw) ?_
          exact E.joinJ ⟨l356, q357, rfl, rfl, h⟩ ⟨rfl, rfl, trivial⟩ (fun _ hw => hw)
         ·
          refine L.to (D := Cls w F [ar46 gP46 qP46 A46 (a0.toNat :: []), .obj (gP46 a0.toNat) [(gv (qP46 a0.toNat) 0), (gv (qP46 a0.toNat) 1), (gv (qP46 a0.toNat) 2)] 46, .sl (gv (qP46 a0.toNat) 0) 3 1 (u45.keys_.map I), .sl (gv (qP46 a0.toNat) 1) 9 1 (u45.texts_.map SR), .sl (gv (qP46 a0.toNat) 2) 42 1 (u45.kids_.map (PR gP46))]) (fun _ hw => hw.sel [4, 0, 1, 2, 3] (by decide) rfl) ?_
          obtain ⟨l358, x359, s360, e361, h⟩ := bind3S h
          refine L.doesP (A := [ar46 gP46 qP46 A46 (a0.toNat :: [])]) (M := [.obj (gP46 a0.toNat) [(gv (qP46 a0.toNat) 0), (gv (qP46 a0.toNat) 1), (gv (qP46 a0.toNat) 2)] 46, .sl (gv (qP46 a0.toNat) 0) 3 1 (u45.keys_.map I), .sl (gv (qP46 a0.toNat) 1) 9 1 (u45.texts_.map SR), .sl (gv (qP46 a0.toNat) 2) 42 1 (u45.kids_.map (PR gP46))]) rfl en26 rfl (fun w' hw => w26_tree_node_last x285 A46 (a0.toNat :: []) gP46 qP46 w' _ e361 _ hw.lend) ?_
          rintro _ _ ⟨q362, rfl, rfl⟩
          refine L.to (D := Cls w F [ar46 gP46 q362 l358 (a0.toNat :: []), .obj (gP46 a0.toNat) [(gv (qP46 a0.toNat) 0), (gv (qP46 a0.toNat) 1), (gv (qP46 a0.toNat) 2)] 46, .sl (gv (qP46 a0.toNat) 0) 3 1 (u45.keys_.map I), .sl (gv (qP46 a0.toNat) 1) 9 1 (u45.texts_.map SR), .sl (gv (qP46 a0.toNat) 2) 42 1 (u45.kids_.map (PR gP46))]) (fun _ hw => hw) ?_
          refine L.nil (E.toV2 (stC [[22, 24], [24]] [Cls w F [.obj (gP46 a0.toNat) [(gv (qP46 a0.toNat) 0), (gv (qP46 a0.toNat) 1), (gv (qP46 a0.toNat) 2)] 46, .sl (gv (qP46 a0.toNat) 0) 3 1 (u45.keys_.map I), .sl (gv (qP46 a0.toNat) 1) 9 1 (u45.texts_.map SR), .sl (gv (qP46 a0.toNat) 2) 42 1 (u45.kids_.map (PR gP46))], Cls w F [.obj (gP46 a0.toNat) [(gv (qP46 a0.toNat) 0), (gv (qP46 a0.toNat) 1), (gv (qP46 a0.toNat) 2)] 46, .sl (gv (qP46 a0.toNat) 1) 9 1 (u45.texts_.map SR), .sl (gv (qP46 a0.toNat) 2) 42 1 (u45.kids_.map (PR gP46))]] (Cls w F [.obj (gP46 a0.toNat) [(gv (qP46 a0.toNat) 0), (gv (qP46 a0.toNat) 1), (gv (qP46 a0.toNat) 2)] 46, .sl (gv (qP46 a0.toNat) 2) 42 1 (u45.kids_.map (PR gP46))])) 17 (by kernel_rfl) (Sc.past rfl (Sc.stay (fun _ hw => hw) (Sc.stay (fun _ hw => hw) (Sc.stayD (fun _ hw => hw))))) (Sc.now (by kernel_rfl) (fun _ hw => hw.sel [1, 2, 3, 4] (by decide) rfl)) ?_)
          refine V2.zz [] (Zc.on' (Zc.on' (Zc.fin (fun _ hw => hw)) (fun _ hw => hw.sel [0, 2] (by decide) rfl)) (fun _ hw => hw.sel [0, 3] (by decide) rfl)) (fun hz366 => ?_)
          refine V2.y (i := 18) (Nx2.of [] (by kernel_rfl) rfl hz366) rfl rfl rfl (Y.move rfl) ?_
          refine V2.y (i := 19) (Nx2.of [] (by kernel_rfl) rfl hz366) rfl rfl rfl (Y.extract rfl rfl) ?_
          refine V2.y (i := 20) (Nx2.of [] (by kernel_rfl) rfl hz366) rfl rfl rfl (Y.extract rfl rfl) ?_
          refine V2.eff (i := 1) (by kernel_rfl) rfl ?_
          refine L.y rfl (Y.apNil rfl eu45) ?_
          refine L.nil (E.toV2 (stC [[22, 24], [24]] [Cls w F [.obj (gP46 a0.toNat) [(gv (qP46 a0.toNat) 0), (gv (qP46 a0.toNat) 1), (gv (qP46 a0.toNat) 2)] 46, .sl (gv (qP46 a0.toNat) 0) 3 1 (u45.keys_.map I), .sl (gv (qP46 a0.toNat) 1) 9 1 (u45.texts_.map SR), .sl (gv (qP46 a0.toNat) 2) 42 1 (u45.kids_.map (PR gP46))], Cls w F [.obj (gP46 a0.toNat) [(gv (qP46 a0.toNat) 0), (gv (qP46 a0.toNat) 1), (gv (qP46 a0.toNat) 2)] 46, .sl (gv (qP46 a0.toNat) 1) 9 1 (u45.texts_.map SR), .sl (gv (qP46 a0.toNat) 2) 42 1 (u45.kids_.map (PR gP46))]] (Cls w F [.obj (gP46 a0.toNat) [(gv (qP46 a0.toNat) 0), (gv (qP46 a0.toNat) 1), (gv (qP46 a0.toNat) 2)] 46, .sl (gv (qP46 a0.toNat) 2) 42 1 (u45.kids_.map (PR gP46))])) 1 (by kernel_rfl) (Sc.stay (fun _ hw => hw) (Sc.stay (fun _ hw => hw) (Sc.stayD (fun _ hw => hw)))) (Sc.now (by kernel_rfl) (fun _ hw => hw.sel [1, 2, 3, 4] (by decide) rfl)) ?_)
          refine V2.zz [] (Zc.on' (Zc.on' (Zc.fin (fun _ hw => hw)) (fun _ hw => hw.sel [0, 2] (by decide) rfl)) (fun _ hw => hw.sel [0, 3] (by decide) rfl)) (fun hz373 => ?_)
          refine V2.y (i := 2) (Nx2.of [] (by kernel_rfl) rfl hz373) rfl rfl rfl (Y.fieldP fd46_0 rfl) ?_
          refine V2.y (i := 3) (Nx2.of [] (by kernel_rfl) rfl hz373) rfl rfl rfl (Y.loadP (i := 0) ag25 rfl rfl rfl) ?_
          refine V2.zz [22, 24] (Zc.at1 (fun _ hw => hw)) (fun hz375 => ?_)
          refine V2.m (i := 21) (V' := fun _ => el (gv (qP46 a0.toNat) 0) (gx1.toNat * 1)) h (Nx2.of [22, 24] (by kernel_rfl) rfl hz375) rfl rfl rfl (Y.indexM (g := I) (l := u45.keys_) Try.underlying25 sz3 rfl rfl (fun w hw => As.at_ (hw.get (i := 1) rfl))) (fun x376 ex376 h => ?_)
          refine V2.eff (i := 22) (by kernel_rfl) rfl ?_
          refine L.storeSlM (q := 2) (row := I) (vs := [.int .i64 x359]) (j := 0) (u1 := x359) h sz3 rfl rfl rfl rfl rfl (all1 rfl all0) rfl ex376 rfl rfl ?_
          intro l377 el377 h
          refine L.nil (E.toV2 (stC [[24]] [Cls w F [.obj (gP46 a0.toNat) [(gv (qP46 a0.toNat) 0), (gv (qP46 a0.toNat) 1), (gv (qP46 a0.toNat) 2)] 46, .sl (gv (qP46 a0.toNat) 1) 9 1 (u45.texts_.map SR), .sl (gv (qP46 a0.toNat) 2) 42 1 (u45.kids_.map (PR gP46))]] (Cls w F [.obj (gP46 a0.toNat) [(gv (qP46 a0.toNat) 0), (gv (qP46 a0.toNat) 1), (gv (qP46 a0.toNat) 2)] 46, .sl (gv (qP46 a0.toNat) 2) 42 1 (u45.kids_.map (PR gP46))])) 22 (by kernel_rfl) (Sc.past rfl (Sc.stay (fun _ hw => hw) (Sc.stayD (fun _ hw => hw)))) (Sc.now (by kernel_rfl) (fun _ hw => hw.sel [1, 3, 4] (by decide) rfl)) ?_)
          refine V2.zz [24] (Zc.at1 (fun _ hw => hw)) (fun hz379 => ?_)
          refine V2.m (i := 23) (V' := fun _ => el (gv (qP46 a0.toNat) 1) (gx1.toNat * 1)) h (Nx2.of [24] (by kernel_rfl) rfl hz379) rfl rfl rfl (Y.indexM (g := SR) (l := u45.texts_) Try.underlying43 sz9 rfl rfl (fun w hw => As.at_ (hw.get (i := 1) rfl))) (fun x380 ex380 h => ?_)
          refine V2.eff (i := 24) (by kernel_rfl) rfl ?_
          refine L.storeSlM (q := 3) (row := SR) (vs := [st s360]) (j := 0) (u1 := s360) h sz9 rfl rfl rfl rfl rfl (all1 rfl all0) rfl ex380 rfl rfl ?_
          intro l381 el381 h
          refine L.nil (E.toV2 (stC [] [] (Cls w F [.obj (gP46 a0.toNat) [(gv (qP46 a0.toNat) 0), (gv (qP46 a0.toNat) 1), (gv (qP46 a0.toNat) 2)] 46, .sl (gv (qP46 a0.toNat) 2) 42 1 (u45.kids_.map (PR gP46))])) 24 (by kernel_rfl) (Sc.past rfl (Sc.stayD (fun _ hw => hw))) (Sc.atD (fun _ hw => hw.sel [1, 4] (by decide) rfl)) ?_)
          refine V2.done (by kernel_rfl) ?_
          refine E.blockN ?_
          obtain ⟨l382, el382, h⟩ := bind1S h
          refine E.arClose (row := Tnode.rowA gP46) (sub := Tnode.subA gP46) (e := 46) (g := gP46) (gh := q362) (vs' := [(gv (qP46 a0.toNat) 0), (gv (qP46 a0.toNat) 1), (gv (qP46 a0.toNat) 2)]) (hs := []) (hs' := (a0.toNat :: [])) (m' := []) [1, 2, 3, 4, 0] el382 (by decide) rfl (fun _ => List.mem_cons) List.not_mem_nil ?_
          intro q383
          refine E.to (D := Cls w F [ar46 gP46 q383 l382 []]) (fun _ hw => hw) ?_
          exact E.joinJ ⟨l382, q383, rfl, rfl, h⟩ ⟨rfl, rfl, trivial⟩ (fun _ hw => hw)
        ·
         refine L.to (D := Cls w F [ar46 gP46 qP46 A46 (a0.toNat :: []), .obj (gP46 a0.toNat) [(gv (qP46 a0.toNat) 0), (gv (qP46 a0.toNat) 1), (gv (qP46 a0.toNat) 2)] 46, .sl (gv (qP46 a0.toNat) 0) 3 1 (u45.keys_.map I), .sl (gv (qP46 a0.toNat) 1) 9 1 (u45.texts_.map SR), .sl (gv (qP46 a0.toNat) 2) 42 1 (u45.kids_.map (PR gP46))]) (fun _ hw => hw.sel [4, 0, 1, 2, 3] (by decide) rfl) ?_
         obtain ⟨l384, x385, s386, e387, h⟩ := bind3S h
         refine L.doesP (A := [ar46 gP46 qP46 A46 (a0.toNat :: [])]) (M := [.obj (gP46 a0.toNat) [(gv (qP46 a0.toNat) 0), (gv (qP46 a0.toNat) 1), (gv (qP46 a0.toNat) 2)] 46, .sl (gv (qP46 a0.toNat) 0) 3 1 (u45.keys_.map I), .sl (gv (qP46 a0.toNat) 1) 9 1 (u45.texts_.map SR), .sl (gv (qP46 a0.toNat) 2) 42 1 (u45.kids_.map (PR gP46))]) rfl en26 rfl (fun w' hw => w26_tree_node_last x285 A46 (a0.toNat :: []) gP46 qP46 w' _ e387 _ hw.lend) ?_
         rintro _ _ ⟨q388, rfl, rfl⟩
         refine L.to (D := Cls w F [ar46 gP46 q388 l384 (a0.toNat :: []), .obj (gP46 a0.toNat) [(gv (qP46 a0.toNat) 0), (gv (qP46 a0.toNat) 1), (gv (qP46 a0.toNat) 2)] 46, .sl (gv (qP46 a0.toNat) 0) 3 1 (u45.keys_.map I), .sl (gv (qP46 a0.toNat) 1) 9 1 (u45.texts_.map SR), .sl (gv (qP46 a0.toNat) 2) 42 1 (u45.kids_.map (PR gP46))]) (fun _ hw => hw) ?_
         refine L.nil (E.toV2 (stC [[22, 24], [24]] [Cls w F [.obj (gP46 a0.toNat) [(gv (qP46 a0.toNat) 0), (gv (qP46 a0.toNat) 1), (gv (qP46 a0.toNat) 2)] 46, .sl (gv (qP46 a0.toNat) 0) 3 1 (u45.keys_.map I), .sl (gv (qP46 a0.toNat) 1) 9 1 (u45.texts_.map SR), .sl (gv (qP46 a0.toNat) 2) 42 1 (u45.kids_.map (PR gP46))], Cls w F [.obj (gP46 a0.toNat) [(gv (qP46 a0.toNat) 0), (gv (qP46 a0.toNat) 1), (gv (qP46 a0.toNat) 2)] 46, .sl (gv (qP46 a0.toNat) 1) 9 1 (u45.texts_.map SR), .sl (gv (qP46 a0.toNat) 2) 42 1 (u45.kids_.map (PR gP46))]] (Cls w F [.obj (gP46 a0.toNat) [(gv (qP46 a0.toNat) 0), (gv (qP46 a0.toNat) 1), (gv (qP46 a0.toNat) 2)] 46, .sl (gv (qP46 a0.toNat) 2) 42 1 (u45.kids_.map (PR gP46))])) 17 (by kernel_rfl) (Sc.past rfl (Sc.stay (fun _ hw => hw) (Sc.stay (fun _ hw => hw) (Sc.stayD (fun _ hw => hw))))) (Sc.now (by kernel_rfl) (fun _ hw => hw.sel [1, 2, 3, 4] (by decide) rfl)) ?_)
         refine V2.zz [] (Zc.on' (Zc.on' (Zc.fin (fun _ hw => hw)) (fun _ hw => hw.sel [0, 2] (by decide) rfl)) (fun _ hw => hw.sel [0, 3] (by decide) rfl)) (fun hz394 => ?_)
         refine V2.y (i := 18) (Nx2.of [] (by kernel_rfl) rfl hz394) rfl rfl rfl (Y.move rfl) ?_
         refine V2.y (i := 19) (Nx2.of [] (by kernel_rfl) rfl hz394) rfl rfl rfl (Y.extract rfl rfl) ?_
         refine V2.y (i := 20) (Nx2.of [] (by kernel_rfl) rfl hz394) rfl rfl rfl (Y.extract rfl rfl) ?_
         refine V2.eff2 (i1 := 1) (i2 := 6) (by kernel_rfl) rfl rfl ?_ ?_
         ·
          refine L.y rfl (Y.apNil rfl eu45) ?_
          refine L.nil (E.toV2 (stC [[22, 24], [24]] [Cls w F [.obj (gP46 a0.toNat) [(gv (qP46 a0.toNat) 0), (gv (qP46 a0.toNat) 1), (gv (qP46 a0.toNat) 2)] 46, .sl (gv (qP46 a0.toNat) 0) 3 1 (u45.keys_.map I), .sl (gv (qP46 a0.toNat) 1) 9 1 (u45.texts_.map SR), .sl (gv (qP46 a0.toNat) 2) 42 1 (u45.kids_.map (PR gP46))], Cls w F [.obj (gP46 a0.toNat) [(gv (qP46 a0.toNat) 0), (gv (qP46 a0.toNat) 1), (gv (qP46 a0.toNat) 2)] 46, .sl (gv (qP46 a0.toNat) 1) 9 1 (u45.texts_.map SR), .sl (gv (qP46 a0.toNat) 2) 42 1 (u45.kids_.map (PR gP46))]] (Cls w F [.obj (gP46 a0.toNat) [(gv (qP46 a0.toNat) 0), (gv (qP46 a0.toNat) 1), (gv (qP46 a0.toNat) 2)] 46, .sl (gv (qP46 a0.toNat) 2) 42 1 (u45.kids_.map (PR gP46))])) 1 (by kernel_rfl) (Sc.stay (fun _ hw => hw) (Sc.stay (fun _ hw => hw) (Sc.stayD (fun _ hw => hw)))) (Sc.now (by kernel_rfl) (fun _ hw => hw.sel [1, 2, 3, 4] (by decide) rfl)) ?_)
          refine V2.zz [] (Zc.on' (Zc.on' (Zc.fin (fun _ hw => hw)) (fun _ hw => hw.sel [0, 2] (by decide) rfl)) (fun _ hw => hw.sel [0, 3] (by decide) rfl)) (fun hz404 => ?_)
          refine V2.y (i := 2) (Nx2.of [] (by kernel_rfl) rfl hz404) rfl rfl rfl (Y.fieldP fd46_0 rfl) ?_
          refine V2.y (i := 3) (Nx2.of [] (by kernel_rfl) rfl hz404) rfl rfl rfl (Y.loadP (i := 0) ag25 rfl rfl rfl) ?_
          refine V2.eff (i := 6) (by kernel_rfl) rfl ?_
          refine L.y rfl (Y.apNil rfl eu45) ?_
          refine L.nil (E.toV2 (stC [[22, 24], [24]] [Cls w F [.obj (gP46 a0.toNat) [(gv (qP46 a0.toNat) 0), (gv (qP46 a0.toNat) 1), (gv (qP46 a0.toNat) 2)] 46, .sl (gv (qP46 a0.toNat) 0) 3 1 (u45.keys_.map I), .sl (gv (qP46 a0.toNat) 1) 9 1 (u45.texts_.map SR), .sl (gv (qP46 a0.toNat) 2) 42 1 (u45.kids_.map (PR gP46))], Cls w F [.obj (gP46 a0.toNat) [(gv (qP46 a0.toNat) 0), (gv (qP46 a0.toNat) 1), (gv (qP46 a0.toNat) 2)] 46, .sl (gv (qP46 a0.toNat) 1) 9 1 (u45.texts_.map SR), .sl (gv (qP46 a0.toNat) 2) 42 1 (u45.kids_.map (PR gP46))]] (Cls w F [.obj (gP46 a0.toNat) [(gv (qP46 a0.toNat) 0), (gv (qP46 a0.toNat) 1), (gv (qP46 a0.toNat) 2)] 46, .sl (gv (qP46 a0.toNat) 2) 42 1 (u45.kids_.map (PR gP46))])) 6 (by kernel_rfl) (Sc.stay (fun _ hw => hw) (Sc.stay (fun _ hw => hw) (Sc.stayD (fun _ hw => hw)))) (Sc.now (by kernel_rfl) (fun _ hw => hw.sel [1, 2, 3, 4] (by decide) rfl)) ?_)
          refine V2.zz [] (Zc.on' (Zc.on' (Zc.fin (fun _ hw => hw)) (fun _ hw => hw.sel [0, 2] (by decide) rfl)) (fun _ hw => hw.sel [0, 3] (by decide) rfl)) (fun hz406 => ?_)
          refine V2.y (i := 7) (Nx2.of [] (by kernel_rfl) rfl hz406) rfl rfl rfl (Y.fieldP fd46_1 rfl) ?_
          refine V2.y (i := 8) (Nx2.of [] (by kernel_rfl) rfl hz406) rfl rfl rfl (Y.loadP (i := 0) ag43 rfl rfl rfl) ?_
          refine V2.zz [22, 24] (Zc.at1 (fun _ hw => hw)) (fun hz408 => ?_)
          refine V2.m (i := 21) (V' := fun _ => el (gv (qP46 a0.toNat) 0) (gx1.toNat * 1)) h (Nx2.of [22, 24] (by kernel_rfl) rfl hz408) rfl rfl rfl (Y.indexM (g := I) (l := u45.keys_) Try.underlying25 sz3 rfl rfl (fun w hw => As.at_ (hw.get (i := 1) rfl))) (fun x409 ex409 h => ?_)
          refine V2.eff (i := 22) (by kernel_rfl) rfl ?_
          refine L.storeSlM (q := 2) (row := I) (vs := [.int .i64 x385]) (j := 0) (u1 := x385) h sz3 rfl rfl rfl rfl rfl (all1 rfl all0) rfl ex409 rfl rfl ?_
          intro l410 el410 h
          refine L.nil (E.toV2 (stC [[24]] [Cls w F [.obj (gP46 a0.toNat) [(gv (qP46 a0.toNat) 0), (gv (qP46 a0.toNat) 1), (gv (qP46 a0.toNat) 2)] 46, .sl (gv (qP46 a0.toNat) 1) 9 1 (u45.texts_.map SR), .sl (gv (qP46 a0.toNat) 2) 42 1 (u45.kids_.map (PR gP46))]] (Cls w F [.obj (gP46 a0.toNat) [(gv (qP46 a0.toNat) 0), (gv (qP46 a0.toNat) 1), (gv (qP46 a0.toNat) 2)] 46, .sl (gv (qP46 a0.toNat) 2) 42 1 (u45.kids_.map (PR gP46))])) 22 (by kernel_rfl) (Sc.past rfl (Sc.stay (fun _ hw => hw) (Sc.stayD (fun _ hw => hw)))) (Sc.now (by kernel_rfl) (fun _ hw => hw.sel [1, 3, 4] (by decide) rfl)) ?_)
          refine V2.zz [24] (Zc.at1 (fun _ hw => hw)) (fun hz412 => ?_)
          refine V2.m (i := 23) (V' := fun _ => el (gv (qP46 a0.toNat) 1) (gx1.toNat * 1)) h (Nx2.of [24] (by kernel_rfl) rfl hz412) rfl rfl rfl (Y.indexM (g := SR) (l := u45.texts_) Try.underlying43 sz9 rfl rfl (fun w hw => As.at_ (hw.get (i := 1) rfl))) (fun x413 ex413 h => ?_)
          refine V2.eff (i := 24) (by kernel_rfl) rfl ?_
          refine L.storeSlM (q := 3) (row := SR) (vs := [st s386]) (j := 0) (u1 := s386) h sz9 rfl rfl rfl rfl rfl (all1 rfl all0) rfl ex413 rfl rfl ?_
          intro l414 el414 h
          refine L.nil (E.toV2 (stC [] [] (Cls w F [.obj (gP46 a0.toNat) [(gv (qP46 a0.toNat) 0), (gv (qP46 a0.toNat) 1), (gv (qP46 a0.toNat) 2)] 46, .sl (gv (qP46 a0.toNat) 2) 42 1 (u45.kids_.map (PR gP46))])) 24 (by kernel_rfl) (Sc.past rfl (Sc.stayD (fun _ hw => hw))) (Sc.atD (fun _ hw => hw.sel [1, 4] (by decide) rfl)) ?_)
          refine V2.done (by kernel_rfl) ?_
          refine E.blockN ?_
          obtain ⟨l415, el415, h⟩ := bind1S h
          refine E.arClose (row := Tnode.rowA gP46) (sub := Tnode.subA gP46) (e := 46) (g := gP46) (gh := q388) (vs' := [(gv (qP46 a0.toNat) 0), (gv (qP46 a0.toNat) 1), (gv (qP46 a0.toNat) 2)]) (hs := []) (hs' := (a0.toNat :: [])) (m' := []) [1, 2, 3, 4, 0] el415 (by decide) rfl (fun _ => List.mem_cons) List.not_mem_nil ?_
          intro q416
          refine E.to (D := Cls w F [ar46 gP46 q416 l415 []]) (fun _ hw => hw) ?_
          exact E.joinJ ⟨l415, q416, rfl, rfl, h⟩ ⟨rfl, rfl, trivial⟩ (fun _ hw => hw)
         ·
          refine L.y rfl (Y.apNil rfl eu45) ?_
          refine L.nil (E.toV2 (stC [[22, 24], [24]] [Cls w F [.obj (gP46 a0.toNat) [(gv (qP46 a0.toNat) 0), (gv (qP46 a0.toNat) 1), (gv (qP46 a0.toNat) 2)] 46, .sl (gv (qP46 a0.toNat) 0) 3 1 (u45.keys_.map I), .sl (gv (qP46 a0.toNat) 1) 9 1 (u45.texts_.map SR), .sl (gv (qP46 a0.toNat) 2) 42 1 (u45.kids_.map (PR gP46))], Cls w F [.obj (gP46 a0.toNat) [(gv (qP46 a0.toNat) 0), (gv (qP46 a0.toNat) 1), (gv (qP46 a0.toNat) 2)] 46, .sl (gv (qP46 a0.toNat) 1) 9 1 (u45.texts_.map SR), .sl (gv (qP46 a0.toNat) 2) 42 1 (u45.kids_.map (PR gP46))]] (Cls w F [.obj (gP46 a0.toNat) [(gv (qP46 a0.toNat) 0), (gv (qP46 a0.toNat) 1), (gv (qP46 a0.toNat) 2)] 46, .sl (gv (qP46 a0.toNat) 2) 42 1 (u45.kids_.map (PR gP46))])) 6 (by kernel_rfl) (Sc.stay (fun _ hw => hw) (Sc.stay (fun _ hw => hw) (Sc.stayD (fun _ hw => hw)))) (Sc.now (by kernel_rfl) (fun _ hw => hw.sel [1, 2, 3, 4] (by decide) rfl)) ?_)
          refine V2.zz [] (Zc.on' (Zc.on' (Zc.fin (fun _ hw => hw)) (fun _ hw => hw.sel [0, 2] (by decide) rfl)) (fun _ hw => hw.sel [0, 3] (by decide) rfl)) (fun hz420 => ?_)
          refine V2.y (i := 7) (Nx2.of [] (by kernel_rfl) rfl hz420) rfl rfl rfl (Y.fieldP fd46_1 rfl) ?_
          refine V2.y (i := 8) (Nx2.of [] (by kernel_rfl) rfl hz420) rfl rfl rfl (Y.loadP (i := 0) ag43 rfl rfl rfl) ?_
          refine V2.eff (i := 1) (by kernel_rfl) rfl ?_
          refine L.y rfl (Y.apNil rfl eu45) ?_
          refine L.nil (E.toV2 (stC [[22, 24], [24]] [Cls w F [.obj (gP46 a0.toNat) [(gv (qP46 a0.toNat) 0), (gv (qP46 a0.toNat) 1), (gv (qP46 a0.toNat) 2)] 46, .sl (gv (qP46 a0.toNat) 0) 3 1 (u45.keys_.map I), .sl (gv (qP46 a0.toNat) 1) 9 1 (u45.texts_.map SR), .sl (gv (qP46 a0.toNat) 2) 42 1 (u45.kids_.map (PR gP46))], Cls w F [.obj (gP46 a0.toNat) [(gv (qP46 a0.toNat) 0), (gv (qP46 a0.toNat) 1), (gv (qP46 a0.toNat) 2)] 46, .sl (gv (qP46 a0.toNat) 1) 9 1 (u45.texts_.map SR), .sl (gv (qP46 a0.toNat) 2) 42 1 (u45.kids_.map (PR gP46))]] (Cls w F [.obj (gP46 a0.toNat) [(gv (qP46 a0.toNat) 0), (gv (qP46 a0.toNat) 1), (gv (qP46 a0.toNat) 2)] 46, .sl (gv (qP46 a0.toNat) 2) 42 1 (u45.kids_.map (PR gP46))])) 1 (by kernel_rfl) (Sc.stay (fun _ hw => hw) (Sc.stay (fun _ hw => hw) (Sc.stayD (fun _ hw => hw)))) (Sc.now (by kernel_rfl) (fun _ hw => hw.sel [1, 2, 3, 4] (by decide) rfl)) ?_)
          refine V2.zz [] (Zc.on' (Zc.on' (Zc.fin (fun _ hw => hw)) (fun _ hw => hw.sel [0, 2] (by decide) rfl)) (fun _ hw => hw.sel [0, 3] (by decide) rfl)) (fun hz425 => ?_)
          refine V2.y (i := 2) (Nx2.of [] (by kernel_rfl) rfl hz425) rfl rfl rfl (Y.fieldP fd46_0 rfl) ?_
          refine V2.y (i := 3) (Nx2.of [] (by kernel_rfl) rfl hz425) rfl rfl rfl (Y.loadP (i := 0) ag25 rfl rfl rfl) ?_
          refine V2.zz [22, 24] (Zc.at1 (fun _ hw => hw)) (fun hz427 => ?_)
          refine V2.m (i := 21) (V' := fun _ => el (gv (qP46 a0.toNat) 0) (gx1.toNat * 1)) h (Nx2.of [22, 24] (by kernel_rfl) rfl hz427) rfl rfl rfl (Y.indexM (g := I) (l := u45.keys_) Try.underlying25 sz3 rfl rfl (fun w hw => As.at_ (hw.get (i := 1) rfl))) (fun x428 ex428 h => ?_)
          refine V2.eff (i := 22) (by kernel_rfl) rfl ?_
          refine L.storeSlM (q := 2) (row := I) (vs := [.int .i64 x385]) (j := 0) (u1 := x385) h sz3 rfl rfl rfl rfl rfl (all1 rfl all0) rfl ex428 rfl rfl ?_
          intro l429 el429 h
          refine L.nil (E.toV2 (stC [[24]] [Cls w F [.obj (gP46 a0.toNat) [(gv (qP46 a0.toNat) 0), (gv (qP46 a0.toNat) 1), (gv (qP46 a0.toNat) 2)] 46, .sl (gv (qP46 a0.toNat) 1) 9 1 (u45.texts_.map SR), .sl (gv (qP46 a0.toNat) 2) 42 1 (u45.kids_.map (PR gP46))]] (Cls w F [.obj (gP46 a0.toNat) [(gv (qP46 a0.toNat) 0), (gv (qP46 a0.toNat) 1), (gv (qP46 a0.toNat) 2)] 46, .sl (gv (qP46 a0.toNat) 2) 42 1 (u45.kids_.map (PR gP46))])) 22 (by kernel_rfl) (Sc.past rfl (Sc.stay (fun _ hw => hw) (Sc.stayD (fun _ hw => hw)))) (Sc.now (by kernel_rfl) (fun _ hw => hw.sel [1, 3, 4] (by decide) rfl)) ?_)
          refine V2.zz [24] (Zc.at1 (fun _ hw => hw)) (fun hz431 => ?_)
          refine V2.m (i := 23) (V' := fun _ => el (gv (qP46 a0.toNat) 1) (gx1.toNat * 1)) h (Nx2.of [24] (by kernel_rfl) rfl hz431) rfl rfl rfl (Y.indexM (g := SR) (l := u45.texts_) Try.underlying43 sz9 rfl rfl (fun w hw => As.at_ (hw.get (i := 1) rfl))) (fun x432 ex432 h => ?_)
          refine V2.eff (i := 24) (by kernel_rfl) rfl ?_
          refine L.storeSlM (q := 3) (row := SR) (vs := [st s386]) (j := 0) (u1 := s386) h sz9 rfl rfl rfl rfl rfl (all1 rfl all0) rfl ex432 rfl rfl ?_
          intro l433 el433 h
          refine L.nil (E.toV2 (stC [] [] (Cls w F [.obj (gP46 a0.toNat) [(gv (qP46 a0.toNat) 0), (gv (qP46 a0.toNat) 1), (gv (qP46 a0.toNat) 2)] 46, .sl (gv (qP46 a0.toNat) 2) 42 1 (u45.kids_.map (PR gP46))])) 24 (by kernel_rfl) (Sc.past rfl (Sc.stayD (fun _ hw => hw))) (Sc.atD (fun _ hw => hw.sel [1, 4] (by decide) rfl)) ?_)
          refine V2.done (by kernel_rfl) ?_
          refine E.blockN ?_
          obtain ⟨l434, el434, h⟩ := bind1S h
          refine E.arClose (row := Tnode.rowA gP46) (sub := Tnode.subA gP46) (e := 46) (g := gP46) (gh := q388) (vs' := [(gv (qP46 a0.toNat) 0), (gv (qP46 a0.toNat) 1), (gv (qP46 a0.toNat) 2)]) (hs := []) (hs' := (a0.toNat :: [])) (m' := []) [1, 2, 3, 4, 0] el434 (by decide) rfl (fun _ => List.mem_cons) List.not_mem_nil ?_
          intro q435
          refine E.to (D := Cls w F [ar46 gP46 q435 l434 []]) (fun _ hw => hw) ?_
          exact E.joinJ ⟨l434, q435, rfl, rfl, h⟩ ⟨rfl, rfl, trivial⟩ (fun _ hw => hw)
      ·
       replace h := iteT h
       refine W.condT rfl ?_
       refine W.seq ?_
       obtain ⟨u436, eu436, h⟩ := bind1S h
       refine W.to (D := Cls w F [.obj (gP46 a0.toNat) [(gv (qP46 a0.toNat) 0), (gv (qP46 a0.toNat) 1), (gv (qP46 a0.toNat) 2)] 46, .sl (gv (qP46 a0.toNat) 0) 3 1 (u436.keys_.map I), .sl (gv (qP46 a0.toNat) 1) 9 1 (u436.texts_.map SR), .sl (gv (qP46 a0.toNat) 2) 42 1 (u436.kids_.map (PR gP46)), ar46 gP46 qP46 A46 (a0.toNat :: [])]) (fun _ hw => hw.arOpen (p := 0) rfl eu436 List.not_mem_nil) ?_
       refine W.drawn2 (k := 24) (stC [[9, 17, 20], [17, 20], [20]] [Cls w F [.obj (gP46 a0.toNat) [(gv (qP46 a0.toNat) 0), (gv (qP46 a0.toNat) 1), (gv (qP46 a0.toNat) 2)] 46, .sl (gv (qP46 a0.toNat) 0) 3 1 (u436.keys_.map I), .sl (gv (qP46 a0.toNat) 1) 9 1 (u436.texts_.map SR), .sl (gv (qP46 a0.toNat) 2) 42 1 (u436.kids_.map (PR gP46)), ar46 gP46 qP46 A46 (a0.toNat :: [])], Cls w F [.obj (gP46 a0.toNat) [(gv (qP46 a0.toNat) 0), (gv (qP46 a0.toNat) 1), (gv (qP46 a0.toNat) 2)] 46, .sl (gv (qP46 a0.toNat) 1) 9 1 (u436.texts_.map SR), .sl (gv (qP46 a0.toNat) 2) 42 1 (u436.kids_.map (PR gP46)), ar46 gP46 qP46 A46 (a0.toNat :: [])], Cls w F [.obj (gP46 a0.toNat) [(gv (qP46 a0.toNat) 0), (gv (qP46 a0.toNat) 1), (gv (qP46 a0.toNat) 2)] 46, .sl (gv (qP46 a0.toNat) 2) 42 1 (u436.kids_.map (PR gP46)), ar46 gP46 qP46 A46 (a0.toNat :: [])]] (Cls w F [.sl (gv (qP46 a0.toNat) 2) 42 1 (u436.kids_.map (PR gP46)), ar46 gP46 qP46 A46 (a0.toNat :: [])])) rfl mixed (fun _ hw => hw.drew) (Sc.now (by kernel_rfl) (fun _ hw => hw)) ?_
       refine V2.zz [] (Zc.on' (Zc.on' (Zc.on' (Zc.fin (fun _ hw => hw)) (fun _ hw => hw.sel [1, 2] (by decide) rfl)) (fun _ hw => hw.sel [2, 3] (by decide) rfl)) (fun _ hw => hw.sel [3, 4] (by decide) rfl)) (fun hz457 => ?_)
       refine V2.y (i := 0) (Nx2.of [] (by kernel_rfl) rfl hz457) rfl rfl rfl (Y.move rfl) ?_
       refine V2.y (i := 1) (Nx2.of [] (by kernel_rfl) rfl hz457) rfl rfl rfl (Y.move rfl) ?_
       refine V2.y (i := 2) (Nx2.of [] (by kernel_rfl) rfl hz457) rfl rfl rfl (Y.move rfl) ?_
       refine V2.apNil (i := 3) (Nx2.of [] (by kernel_rfl) rfl hz457) rfl rfl rfl eu436 ?_
       refine V2.y (i := 4) (Nx2.of [] (by kernel_rfl) rfl hz457) rfl rfl rfl (Y.fieldP fd46_0 rfl) ?_
       refine V2.zz [20] (Zc.on' (Zc.on' (Zc.at1 (fun _ hw => hw)) (fun _ hw => hw.sel [0, 2, 3] (by decide) rfl)) (fun _ hw => hw.sel [0, 3, 4] (by decide) rfl)) (fun hz458 => ?_)
       refine V2.y (i := 5) (Nx2.of [20] (by kernel_rfl) rfl hz458) rfl rfl rfl (Y.loadP (i := 0) ag25 rfl rfl rfl) ?_
       refine V2.y (i := 6) (Nx2.of [] (by kernel_rfl) rfl hz457) rfl rfl rfl (Y.move rfl) ?_
       refine V2.y (i := 7) (Nx2.of [] (by kernel_rfl) rfl hz457) rfl rfl rfl (Y.move rfl) ?_
       refine V2.m (i := 8) (V' := fun x459 => .int .i64 x459) h (Nx2.of [] (by kernel_rfl) rfl hz457) rfl rfl rfl (Y.addM rfl rfl) (fun x459 ex459 h => ?_)
       refine V2.y (i := 10) (Nx2.of [] (by kernel_rfl) rfl hz457) rfl rfl rfl (Y.move rfl) ?_
       refine V2.apNil (i := 11) (Nx2.of [] (by kernel_rfl) rfl hz457) rfl rfl rfl eu436 ?_
       refine V2.y (i := 12) (Nx2.of [] (by kernel_rfl) rfl hz457) rfl rfl rfl (Y.fieldP fd46_1 rfl) ?_
       refine V2.y (i := 13) (Nx2.of [20] (by kernel_rfl) rfl hz458) rfl rfl rfl (Y.loadP (i := 0) ag43 rfl rfl rfl) ?_
       refine V2.y (i := 14) (Nx2.of [] (by kernel_rfl) rfl hz457) rfl rfl rfl (Y.move rfl) ?_
       refine V2.y (i := 15) (Nx2.of [] (by kernel_rfl) rfl hz457) rfl rfl rfl (Y.move rfl) ?_
       refine V2.m (i := 16) (V' := fun x460 => .int .i64 x460) h (Nx2.of [] (by kernel_rfl) rfl hz457) rfl rfl rfl (Y.addM rfl rfl) (fun x460 ex460 h => ?_)
       refine V2.eff (i := 9) (by kernel_rfl) rfl ?_
       refine L.delRD (i := 1) (l := u436.keys_) (a := gx1) (b := x459) h wDelR8 rfl en8 rfl rfl rfl rfl ?_
       intro v462 l461 el461 h
       refine L.nil (E.toV2 (stC [[17, 20], [20]] [Cls w F [.obj (gP46 a0.toNat) [(gv (qP46 a0.toNat) 0), (gv (qP46 a0.toNat) 1), (gv (qP46 a0.toNat) 2)] 46, .sl v462 3 1 (l461.map I), .sl (gv (qP46 a0.toNat) 1) 9 1 (u436.texts_.map SR), .sl (gv (qP46 a0.toNat) 2) 42 1 (u436.kids_.map (PR gP46)), ar46 gP46 qP46 A46 (a0.toNat :: [])], Cls w F [.obj (gP46 a0.toNat) [(gv (qP46 a0.toNat) 0), (gv (qP46 a0.toNat) 1), (gv (qP46 a0.toNat) 2)] 46, .sl v462 3 1 (l461.map I), .sl (gv (qP46 a0.toNat) 2) 42 1 (u436.kids_.map (PR gP46)), ar46 gP46 qP46 A46 (a0.toNat :: [])]] (Cls w F [.sl v462 3 1 (l461.map I), .sl (gv (qP46 a0.toNat) 2) 42 1 (u436.kids_.map (PR gP46)), ar46 gP46 qP46 A46 (a0.toNat :: [])])) 9 (by kernel_rfl) (Sc.past rfl (Sc.stay (fun _ hw => hw.sel [0, 2, 3, 4] (by decide) rfl) (Sc.stay (fun _ hw => hw.sel [0, 2, 3] (by decide) rfl) (Sc.stayD (fun _ hw => hw.sel [1, 2] (by decide) rfl))))) (Sc.now (by kernel_rfl) (fun _ hw => hw)) ?_)
       refine V2.eff (i := 17) (by kernel_rfl) rfl ?_
       refine L.delRD (i := 2) (l := u436.texts_) (a := gx1) (b := x460) h wDelR25 rfl en25 rfl rfl rfl rfl ?_
       intro v464 l463 el463 h
       refine L.nil (E.toV2 (stC [[20]] [Cls w F [.obj (gP46 a0.toNat) [(gv (qP46 a0.toNat) 0), (gv (qP46 a0.toNat) 1), (gv (qP46 a0.toNat) 2)] 46, .sl v462 3 1 (l461.map I), .sl v464 9 1 (l463.map SR), .sl (gv (qP46 a0.toNat) 2) 42 1 (u436.kids_.map (PR gP46)), ar46 gP46 qP46 A46 (a0.toNat :: [])]] (Cls w F [.sl v462 3 1 (l461.map I), .sl v464 9 1 (l463.map SR), .sl (gv (qP46 a0.toNat) 2) 42 1 (u436.kids_.map (PR gP46)), ar46 gP46 qP46 A46 (a0.toNat :: [])])) 17 (by kernel_rfl) (Sc.past rfl (Sc.stay (fun _ hw => hw.sel [0, 1, 3, 4] (by decide) rfl) (Sc.stayD (fun _ hw => hw.sel [0, 2, 3] (by decide) rfl)))) (Sc.now (by kernel_rfl) (fun _ hw => hw)) ?_)
       refine V2.zz [] (Zc.on' (Zc.fin (fun _ hw => hw)) (fun _ hw => hw.sel [1, 2, 3, 4] (by decide) rfl)) (fun hz465 => ?_)
       refine V2.apNil (i := 18) (Nx2.of [] (by kernel_rfl) rfl hz465) rfl rfl rfl eu436 ?_
       refine V2.y (i := 19) (Nx2.of [] (by kernel_rfl) rfl hz465) rfl rfl rfl (Y.fieldP fd46_0 rfl) ?_
       refine V2.eff (i := 20) (by kernel_rfl) rfl ?_
       refine L.storeV (i := 0) sz25 rfl rfl (fun _ hw => (As.at_ (hw.get (i := 1) rfl)).one) rfl (Nat.le_of_ble_eq_true rfl) ?_
       refine L.nil (E.toV2 (stC [] [] (Cls w F [.sl v462 3 1 (l461.map I), .sl v464 9 1 (l463.map SR), .sl (gv (qP46 a0.toNat) 2) 42 1 (u436.kids_.map (PR gP46)), ar46 gP46 qP46 A46 (a0.toNat :: [])])) 20 (by kernel_rfl) (Sc.past rfl (Sc.stayD (fun _ hw => hw))) (Sc.atD (fun _ hw => hw.sel [1, 2, 3, 4] (by decide) rfl)) ?_)
       refine V2.zz [] (Zc.fin (fun _ hw => hw)) (fun hz466 => ?_)
       refine V2.apNil (i := 21) (Nx2.of [] (by kernel_rfl) rfl hz466) rfl rfl rfl eu436 ?_
       refine V2.y (i := 22) (Nx2.of [] (by kernel_rfl) rfl hz466) rfl rfl rfl (Y.fieldP fd46_1 rfl) ?_
       refine V2.eff (i := 23) (by kernel_rfl) rfl ?_
       refine L.storeV (i := 0) sz43 rfl rfl (fun _ hw => (As.at_ (hw.get (i := 2) rfl)).one) rfl (Nat.le_of_ble_eq_true rfl) ?_
       refine L.nil (E.toV2 (stC [] [] (Cls w F [.sl v462 3 1 (l461.map I), .sl v464 9 1 (l463.map SR), .sl (gv (qP46 a0.toNat) 2) 42 1 (u436.kids_.map (PR gP46)), ar46 gP46 qP46 A46 (a0.toNat :: [])])) 23 (by kernel_rfl) (Sc.stayD (fun _ hw => hw)) (Sc.atD (fun _ hw => hw.sel [1, 2, 3, 4] (by decide) rfl)) ?_)
       refine V2.done (by kernel_rfl) ?_
       refine E.thenN (W.ret (E.blockR (E.KSR ?_)))
       obtain ⟨l467, el467, h⟩ := bind1S h
       refine E.arClose (row := Tnode.rowA gP46) (sub := Tnode.subA gP46) (e := 46) (g := gP46) (gh := qP46) (vs' := [v462, v464, (gv (qP46 a0.toNat) 2)]) (hs := []) (hs' := (a0.toNat :: [])) (m' := []) [0, 1, 2, 3, 4] el467 (by decide) rfl (fun _ => List.mem_cons) List.not_mem_nil ?_
       intro q468
       refine E.to (D := Cls w F [ar46 gP46 q468 l467 []]) (fun _ hw => hw) ?_
       refine E.ret0 rfl (fun w1 hw => ?_)
       obtain rfl := Option.some.inj h
       exact ⟨_, _, rfl, ⟨_, rfl, rfl⟩, hw⟩
    ·
     rintro _ _ ⟨gl3, gq4, rfl, rfl, h⟩
     rw [m16_tree_node_drop_K2] at h
     refine W.region (L.y rfl (Y.move rfl) ?_)
     refine L.y rfl (Y.move rfl) ?_
     obtain ⟨l42, e43, h⟩ := bind1S h
     refine L.doesP (A := [ar46 gP46 gq4 gl3 []]) (M := []) rfl en27 rfl (fun w' hw => w27_tree_node_mend a0 gx1 gl3 [] gP46 gq4 w' _ e43 _ hw.lend) ?_
     rintro _ _ ⟨q44, rfl, rfl⟩
     refine L.to (D := Cls w F [ar46 gP46 q44 l42 []]) (fun _ hw => hw) ?_
     refine L.nil (E.end0 rfl (fun w1 hw => ?_))
     obtain rfl := Option.some.inj h
     exact ⟨_, _, rfl, ⟨_, rfl, rfl⟩, hw⟩
theorem w16_tree_node_drop (a0 : Int) (a1 : Int) (A46 : (List Tnode)) (gP46 : Nat → Nat) (qP46 : Nat → List Value) (w : World) (r : (List Tnode)) (h : m16_tree_node_drop a0 a1 A46 = some r) (F : List Nat) (hc0 : Cls w F [ar46 gP46 qP46 A46 []] w) : DoesF Try.prog 16 [VP gP46 a0, .int .i64 a1] F w fun u m => ∃ Q46, u = .tuple #[] ∧ m = [ar46 gP46 Q46 r []] := w16_tree_node_dropR big a0 a1 A46 gP46 qP46 w r h F hc0
end Go.Proofs.Ytdebhhjbgbkbjaa
