/-
  Walks, printed by a program of mine.
  Conditions: none.
-/
import Derived.Test.YtdebhhjbgbkbjaaTrW2
import Derived.Test.YtdebhhjbgbkbjaaChecked
import Derived.KernelRfl
import Derived.Test.YtdebhhjbgbkbjaaTrO
import Derived.Test.YtdebhhjbgbkbjaaTrB
namespace Go.Proofs.Ytdebhhjbgbkbjaa
open Go.S
set_option linter.unusedVariables false
set_option linter.unusedSimpArgs false
set_option maxRecDepth 100000 in
set_option maxHeartbeats 8000000 in
theorem w7_tree_Tree_Drop (a0 : Int) (a1 : Int) (A46 : (List Tnode)) (A48 : (List TTree)) (gP46 : Nat → Nat) (gP48 : Nat → Nat) (qP46 : Nat → List Value) (qP48 : Nat → List Value) (w : World) (r : ((List Tnode) × (List TTree) × Int)) (h : m7_tree_Tree_Drop a0 a1 A46 A48 = some r) (F : List Nat) (hc0 : Cls w F [ar46 gP46 qP46 A46 [], ar48 gP46 gP48 qP48 A48 []] w) : DoesF Try.prog 7 [VP gP48 a0, .int .i64 a1] F w fun u m => ∃ Q46 Q48, u = .int .i64 r.2.2 ∧ m = [ar46 gP46 Q46 r.1 [], ar48 gP46 gP48 Q48 r.2.1 []] := by
  rw [m7_tree_Tree_Drop] at h
  refine body (n := 61) Try.func7 rfl rfl rfl hc0 ?_
  refine W.seq (W.region (L.y rfl (Y.assign rfl) ?_))
  refine L.nil (E.thenN (W.seqJ (fun gs D => gs = [(0, VP gP48 a0), (1, .int .i64 a1)] ∧ D = Cls w F [ar46 gP46 qP46 A46 [], ar48 gP46 gP48 qP48 A48 []] ∧ m7_tree_Tree_Drop_K1 A48 a0 a1 A46 = some r) ?_ ?_))
  ·
   refine W.seq (W.region (L.y rfl (Y.move rfl) ?_))
   refine L.y rfl (Y.move rfl) ?_
   obtain ⟨s20, x21, e22, h⟩ := bind2S h
   refine L.doesP (A := [ar46 gP46 qP46 A46 [], ar48 gP46 gP48 qP48 A48 []]) (M := []) rfl en6 rfl (fun w' hw => w6_tree_Tree_Get a0 a1 A46 A48 gP46 gP48 qP46 qP48 w' _ e22 _ hw.lend) ?_
   rintro _ _ ⟨rfl, rfl⟩
   refine L.to (D := Cls w F [ar46 gP46 qP46 A46 [], ar48 gP46 gP48 qP48 A48 []]) (fun _ hw => hw) ?_
   refine L.y rfl (Y.move rfl) ?_
   refine L.y rfl (Y.extract rfl rfl) ?_
   refine L.y rfl (Y.extract rfl rfl) ?_
   refine L.y rfl (Y.assign rfl) ?_
   refine L.y rfl (Y.assign rfl) ?_
   refine L.nil (E.thenN (W.seq (W.region (L.y rfl (Y.move rfl) ?_))))
   refine L.ite h rfl (Y.neq rfl rfl) (fun c23 h => ?_) (fun c23 h => ?_)
   ·
    refine L.nil (E.thenN (W.condT rfl ?_))
    refine W.seq (W.region (L.y rfl (Y.move rfl) ?_))
    refine L.y rfl (Y.assign rfl) ?_
    refine L.nil (E.thenN (W.ret (E.KSR (E.ret1 rfl rfl (fun w1 hw => ?_)))))
    obtain rfl := Option.some.inj h
    exact ⟨_, _, rfl, ⟨_, _, rfl, rfl⟩, hw⟩
   ·
    refine L.nil (E.thenN (W.condF rfl ?_))
    exact W.skip (E.joinJ ⟨rfl, rfl, h⟩ ⟨rfl, rfl, trivial⟩ (fun _ hw => hw))
  ·
   rintro _ _ ⟨rfl, rfl, h⟩
   rw [m7_tree_Tree_Drop_K1] at h
   refine W.seq (W.region (L.y rfl (Y.move rfl) ?_))
   obtain ⟨u1, eu1, h⟩ := bind1S h
   refine L.to (D := Cls w F [.obj (gP48 a0.toNat) [VP gP46 u1.root_, .int .i64 u1.n_] 48, ar48 gP46 gP48 qP48 A48 (a0.toNat :: []), ar46 gP46 qP46 A46 []]) (fun _ hw => hw.arOpen (p := 1) rfl eu1 List.not_mem_nil) ?_
   refine L.y rfl (Y.apNil rfl eu1) ?_
   refine L.y rfl (Y.fieldP fd48_0 rfl) ?_
   refine L.y rfl (Y.loadP (i := 0) ag42 rfl rfl rfl) ?_
   refine L.y rfl (Y.move rfl) ?_
   refine L.to (D := Cls w F [ar48 gP46 gP48 qP48 A48 [], ar46 gP46 qP46 A46 []]) (fun _ hw => hw.arShut (hs' := (a0.toNat :: [])) [0, 1, 2] eu1 (by decide) rfl (fun _ => List.mem_cons) List.not_mem_nil) ?_
   refine L.to (D := Cls w F [ar46 gP46 qP46 A46 [], ar48 gP46 gP48 qP48 A48 []]) (fun _ hw => hw.sel [1, 0] (by decide) rfl) ?_
   obtain ⟨l2, e3, h⟩ := bind1S h
   refine L.doesP (A := [ar46 gP46 qP46 A46 []]) (M := [ar48 gP46 gP48 qP48 A48 []]) rfl en16 rfl (fun w' hw => w16_tree_node_drop u1.root_ a1 A46 gP46 qP46 w' _ e3 _ hw.lend) ?_
   rintro _ _ ⟨q4, rfl, rfl⟩
   refine L.to (D := Cls w F [ar46 gP46 q4 l2 [], ar48 gP46 gP48 qP48 A48 []]) (fun _ hw => hw) ?_
   refine L.nil (E.thenN (W.seq (W.region (L.y rfl (Y.move rfl) ?_))))
   obtain ⟨u5, eu5, h⟩ := bind1S h
   refine L.to (D := Cls w F [.obj (gP48 a0.toNat) [VP gP46 u5.root_, .int .i64 u5.n_] 48, ar48 gP46 gP48 qP48 A48 (a0.toNat :: []), ar46 gP46 q4 l2 []]) (fun _ hw => hw.arOpen (p := 1) rfl eu5 List.not_mem_nil) ?_
   refine L.y rfl (Y.apNil rfl eu5) ?_
   refine L.y rfl (Y.fieldP fd48_1 rfl) ?_
   refine L.y rfl (Y.loadP (i := 0) ag3 rfl rfl rfl) ?_
   refine L.m (V := fun x6 => .int .i64 x6) h rfl (Y.subM rfl rfl) (fun x6 ex6 h => ?_)
   refine L.y rfl (Y.apNil rfl eu5) ?_
   refine L.y rfl (Y.fieldP fd48_1 rfl) ?_
   refine L.store (i := 0) (vs := [.int .i64 x6]) sz3 rfl rfl rfl rfl (by simp [Value.oneCell', Value.cells, st, pt, el]) rfl (Nat.le_of_ble_eq_true rfl) ?_
   refine L.nil (E.thenN (W.seq (W.seq (W.region (L.y rfl (Y.move rfl) ?_)))))
   refine L.y rfl (Y.apNil rfl eu5) ?_
   refine L.y rfl (Y.fieldP fd48_0 rfl) ?_
   refine L.y rfl (Y.loadP (i := 0) ag42 rfl rfl rfl) ?_
   obtain ⟨l7, el7, h⟩ := bind1S h
   refine L.arClose (row := TTree.rowA gP46) (sub := TTree.subA gP46) (e := 48) (g := gP48) (gh := qP48) (vs' := []) (hs := []) (hs' := (a0.toNat :: [])) (m' := [ar46 gP46 q4 l2 []]) [0, 1, 2] el7 (by decide) rfl (fun _ => List.mem_cons) List.not_mem_nil ?_
   intro q8
   refine L.to (D := Cls w F [ar48 gP46 gP48 q8 l7 [], ar46 gP46 q4 l2 []]) (fun _ hw => hw) ?_
   obtain ⟨u9, eu9, h⟩ := bind1S h
   refine L.to (D := Cls w F [.obj (gP46 u5.root_.toNat) [(gv (q4 u5.root_.toNat) 0), (gv (q4 u5.root_.toNat) 1), (gv (q4 u5.root_.toNat) 2)] 46, .sl (gv (q4 u5.root_.toNat) 0) 3 1 (u9.keys_.map I), .sl (gv (q4 u5.root_.toNat) 1) 9 1 (u9.texts_.map SR), .sl (gv (q4 u5.root_.toNat) 2) 42 1 (u9.kids_.map (PR gP46)), ar46 gP46 q4 l2 (u5.root_.toNat :: []), ar48 gP46 gP48 q8 l7 []]) (fun _ hw => hw.arOpen (p := 1) rfl eu9 List.not_mem_nil) ?_
   refine L.y rfl (Y.apNil rfl eu9) ?_
   refine L.y rfl (Y.fieldP fd46_0 rfl) ?_
   refine L.y rfl (Y.loadP (i := 0) ag25 rfl rfl rfl) ?_
   refine L.y rfl (Y.lenM (g := I) (l := u9.keys_) Try.underlying25 rfl (fun w hw => As.at_ (hw.get (i := 1) rfl))) ?_
   refine L.ite h rfl (Y.eql rfl rfl) (fun c10 h => ?_) (fun c10 h => ?_)
   ·
    refine L.y rfl (Y.move rfl) ?_
    refine L.take rfl (L.y rfl (Y.move rfl) ?_)
    refine L.take rfl (L.to (D := Cls w F [ar46 gP46 q4 l2 [], ar48 gP46 gP48 q8 l7 []]) (fun _ hw => hw.arShut (hs' := (u5.root_.toNat :: [])) [0, 1, 2, 3, 4, 5] eu9 (by decide) rfl (fun _ => List.mem_cons) List.not_mem_nil) ?_)
    obtain ⟨u11, eu11, h⟩ := bind1S h
    refine L.to (D := Cls w F [.obj (gP48 a0.toNat) [VP gP46 u11.root_, .int .i64 u11.n_] 48, ar48 gP46 gP48 q8 l7 (a0.toNat :: []), ar46 gP46 q4 l2 []]) (fun _ hw => hw.arOpen (p := 1) rfl eu11 List.not_mem_nil) ?_
    refine L.y rfl (Y.apNil rfl eu11) ?_
    refine L.take rfl (L.y rfl (Y.fieldP fd48_0 rfl) ?_)
    refine L.take rfl (L.y rfl (Y.loadP (i := 0) ag42 rfl rfl rfl) ?_)
    refine L.take rfl (L.to (D := Cls w F [ar48 gP46 gP48 q8 l7 [], ar46 gP46 q4 l2 []]) (fun _ hw => hw.arShut (hs' := (a0.toNat :: [])) [0, 1, 2] eu11 (by decide) rfl (fun _ => List.mem_cons) List.not_mem_nil) ?_)
    obtain ⟨u12, eu12, h⟩ := bind1S h
    refine L.to (D := Cls w F [.obj (gP46 u11.root_.toNat) [(gv (q4 u11.root_.toNat) 0), (gv (q4 u11.root_.toNat) 1), (gv (q4 u11.root_.toNat) 2)] 46, .sl (gv (q4 u11.root_.toNat) 0) 3 1 (u12.keys_.map I), .sl (gv (q4 u11.root_.toNat) 1) 9 1 (u12.texts_.map SR), .sl (gv (q4 u11.root_.toNat) 2) 42 1 (u12.kids_.map (PR gP46)), ar46 gP46 q4 l2 (u11.root_.toNat :: []), ar48 gP46 gP48 q8 l7 []]) (fun _ hw => hw.arOpen (p := 1) rfl eu12 List.not_mem_nil) ?_
    refine L.y rfl (Y.apNil rfl eu12) ?_
    refine L.take rfl (L.y rfl (Y.fieldP fd46_2 rfl) ?_)
    refine L.take rfl (L.y rfl (Y.loadP (i := 0) ag44 rfl rfl rfl) ?_)
    refine L.take rfl (L.y rfl (Y.lenM (g := (PR gP46)) (l := u12.kids_) Try.underlying44 rfl (fun w hw => As.at_ (hw.get (i := 3) rfl))) ?_)
    refine L.take rfl (L.ite h rfl (Y.gtr rfl rfl) (fun c13 h => ?_) (fun c13 h => ?_))
    ·
     refine L.y rfl (Y.pickT rfl rfl) ?_
     refine L.nil (E.thenN (W.condT rfl ?_))
     refine W.region (L.y rfl (Y.move rfl) ?_)
     refine L.y rfl (Y.move rfl) ?_
     refine L.to (D := Cls w F [ar46 gP46 q4 l2 [], ar48 gP46 gP48 q8 l7 []]) (fun _ hw => hw.arShut (hs' := (u11.root_.toNat :: [])) [0, 1, 2, 3, 4, 5] eu12 (by decide) rfl (fun _ => List.mem_cons) List.not_mem_nil) ?_
     obtain ⟨u14, eu14, h⟩ := bind1S h
     refine L.to (D := Cls w F [.obj (gP48 a0.toNat) [VP gP46 u14.root_, .int .i64 u14.n_] 48, ar48 gP46 gP48 q8 l7 (a0.toNat :: []), ar46 gP46 q4 l2 []]) (fun _ hw => hw.arOpen (p := 1) rfl eu14 List.not_mem_nil) ?_
     refine L.y rfl (Y.apNil rfl eu14) ?_
     refine L.y rfl (Y.fieldP fd48_0 rfl) ?_
     refine L.y rfl (Y.loadP (i := 0) ag42 rfl rfl rfl) ?_
     refine L.to (D := Cls w F [ar48 gP46 gP48 q8 l7 [], ar46 gP46 q4 l2 []]) (fun _ hw => hw.arShut (hs' := (a0.toNat :: [])) [0, 1, 2] eu14 (by decide) rfl (fun _ => List.mem_cons) List.not_mem_nil) ?_
     obtain ⟨u15, eu15, h⟩ := bind1S h
     refine L.to (D := Cls w F [.obj (gP46 u14.root_.toNat) [(gv (q4 u14.root_.toNat) 0), (gv (q4 u14.root_.toNat) 1), (gv (q4 u14.root_.toNat) 2)] 46, .sl (gv (q4 u14.root_.toNat) 0) 3 1 (u15.keys_.map I), .sl (gv (q4 u14.root_.toNat) 1) 9 1 (u15.texts_.map SR), .sl (gv (q4 u14.root_.toNat) 2) 42 1 (u15.kids_.map (PR gP46)), ar46 gP46 q4 l2 (u14.root_.toNat :: []), ar48 gP46 gP48 q8 l7 []]) (fun _ hw => hw.arOpen (p := 1) rfl eu15 List.not_mem_nil) ?_
     refine L.y rfl (Y.apNil rfl eu15) ?_
     refine L.y rfl (Y.fieldP fd46_2 rfl) ?_
     refine L.y rfl (Y.loadP (i := 0) ag44 rfl rfl rfl) ?_
     refine L.m (V := fun _ => el (gv (q4 u14.root_.toNat) 2) ((0 : Int).toNat * 1)) h rfl (Y.indexM (g := (PR gP46)) (l := u15.kids_) Try.underlying44 sz42 rfl rfl (fun w hw => As.at_ (hw.get (i := 3) rfl))) (fun x16 ex16 h => ?_)
     refine L.y rfl (Y.loadE1 (u := VP gP46 x16) ag42 rfl (fun w hw => As.at_ (hw.get (i := 3) rfl)) (idx_map ex16)) ?_
     refine L.to (D := Cls w F [ar46 gP46 q4 l2 [], ar48 gP46 gP48 q8 l7 []]) (fun _ hw => hw.arShut (hs' := (u14.root_.toNat :: [])) [0, 1, 2, 3, 4, 5] eu15 (by decide) rfl (fun _ => List.mem_cons) List.not_mem_nil) ?_
     obtain ⟨u17, eu17, h⟩ := bind1S h
     refine L.to (D := Cls w F [.obj (gP48 a0.toNat) [VP gP46 u17.root_, .int .i64 u17.n_] 48, ar48 gP46 gP48 q8 l7 (a0.toNat :: []), ar46 gP46 q4 l2 []]) (fun _ hw => hw.arOpen (p := 1) rfl eu17 List.not_mem_nil) ?_
     refine L.y rfl (Y.apNil rfl eu17) ?_
     refine L.y rfl (Y.fieldP fd48_0 rfl) ?_
     refine L.storeA (i := 0) sz42 rfl rfl rfl (Nat.le_of_ble_eq_true rfl) ?_
     refine L.nil (E.thenN (W.seq (W.region (L.y rfl (Y.assign rfl) ?_))))
     refine L.nil (E.thenN (W.ret ?_))
     obtain ⟨l18, el18, h⟩ := bind1S h
     refine E.arClose (row := TTree.rowA gP46) (sub := TTree.subA gP46) (e := 48) (g := gP48) (gh := q8) (vs' := []) (hs := []) (hs' := (a0.toNat :: [])) (m' := [ar46 gP46 q4 l2 []]) [0, 1, 2] el18 (by decide) rfl (fun _ => List.mem_cons) List.not_mem_nil ?_
     intro q19
     refine E.to (D := Cls w F [ar48 gP46 gP48 q19 l18 [], ar46 gP46 q4 l2 []]) (fun _ hw => hw) ?_
     refine E.ret1 rfl rfl (fun w1 hw => ?_)
     obtain rfl := Option.some.inj h
     exact ⟨_, _, rfl, ⟨_, _, rfl, rfl⟩, hw.sel [1, 0] (by decide) rfl⟩
    ·
     refine L.y rfl (Y.pickT rfl rfl) ?_
     refine L.nil (E.thenN (W.condF rfl ?_))
     refine W.skip (E.thenN (W.seq (W.region (L.y rfl (Y.assign rfl) ?_))))
     refine L.nil (E.thenN (W.ret (E.to (D := Cls w F [ar46 gP46 q4 l2 [], ar48 gP46 gP48 q8 l7 []]) (fun _ hw => hw.arShut (hs' := (u11.root_.toNat :: [])) [0, 1, 2, 3, 4, 5] eu12 (by decide) rfl (fun _ => List.mem_cons) List.not_mem_nil) ?_)))
     refine E.ret1 rfl rfl (fun w1 hw => ?_)
     obtain rfl := Option.some.inj h
     exact ⟨_, _, rfl, ⟨_, _, rfl, rfl⟩, hw⟩
   ·
    refine L.y rfl (Y.move rfl) ?_
    refine L.pass rfl rfl (by nofun) ?_
    refine L.pass rfl rfl (by nofun) ?_
    refine L.pass rfl rfl (by nofun) ?_
    refine L.pass rfl rfl (by nofun) ?_
    refine L.pass rfl rfl (by nofun) ?_
    refine L.pass rfl rfl (by nofun) ?_
    refine L.pass rfl rfl (by nofun) ?_
    refine L.pass rfl rfl (by nofun) ?_
    refine L.pass rfl rfl (by nofun) ?_
    refine L.y rfl (Y.pickF rfl rfl) ?_
    refine L.nil (E.thenN (W.condF rfl ?_))
    refine W.skip (E.thenN (W.seq (W.region (L.y rfl (Y.assign rfl) ?_))))
    refine L.nil (E.thenN (W.ret (E.to (D := Cls w F [ar46 gP46 q4 l2 [], ar48 gP46 gP48 q8 l7 []]) (fun _ hw => hw.arShut (hs' := (u5.root_.toNat :: [])) [0, 1, 2, 3, 4, 5] eu9 (by decide) rfl (fun _ => List.mem_cons) List.not_mem_nil) ?_)))
    refine E.ret1 rfl rfl (fun w1 hw => ?_)
    obtain rfl := Option.some.inj h
    exact ⟨_, _, rfl, ⟨_, _, rfl, rfl⟩, hw⟩
set_option maxRecDepth 100000 in
set_option maxHeartbeats 8000000 in
theorem w39_slices_Clone_int (a0 : (List Int)) (u0 : Value) (w : World) (r : (List Int)) (h : m39_slices_Clone_int a0 = some r) (hA0 : At w u0 1 (a0.map I)) : Does Try.prog 39 [u0] w fun u m => ∃ v0, u = v0 ∧ m = [.sl v0 3 1 (r.map I)] := by
  rw [m39_slices_Clone_int] at h
  rcases hA0.shape with ⟨rfl, hn⟩ | ⟨ad, cap, rfl, hl, hm⟩
  ·
   obtain rfl : a0 = [] := by simpa using hn
   replace h : some ([] : List Int) = some r := by simpa [app] using h
   refine body (n := 8) Try.func39 rfl rfl rfl (Cls.refl w) ?_
   refine W.seq (W.region (L.y rfl (Y.assign rfl) ?_))
   refine L.nil (E.thenN (W.seq (W.seq (W.region (L.y rfl (Y.move rfl) ?_)))))
   refine L.y rfl (Y.eqlNil Try.underlying25 rfl rfl) ?_
   refine L.nil (E.thenN (W.condT rfl ?_))
   refine W.seq (W.region (L.y rfl (Y.assign rfl) ?_))
   refine L.nil (E.thenN (W.ret (E.thenR (E.ret1 rfl rfl (fun w1 hw => ?_)))))
   obtain rfl := Option.some.inj h
   exact ⟨_, _, rfl, ⟨_, rfl, rfl⟩, (hw.nilSl 3 1)⟩
  ·
   refine body (n := 8) Try.func39 rfl rfl rfl (Cls.refl w) ?_
   refine W.seq (W.region (L.y rfl (Y.assign rfl) ?_))
   refine L.nil (E.thenN (W.seq (W.seq (W.region (L.y rfl (Y.move rfl) ?_)))))
   refine L.y rfl (Y.eqlNil Try.underlying25 rfl rfl) ?_
   refine L.nil (E.thenN (W.condF rfl ?_))
   refine W.skip (E.thenN (W.seq (W.region (L.lit0 rfl Try.underlying25 eL3 ?_))))
   intro b1
   refine L.y rfl (Y.move rfl) ?_
   refine L.appM (i := 0) (g := I) (l := []) (more := a0) h rfl Try.underlying25 eL3 rfl rfl rfl (fun w' hw => hA0.cls0 hw) (plain_ints _) rfl ?_
   intro v2 l3 el3 h
   refine L.y rfl (Y.assign rfl) ?_
   refine L.nil (E.thenN (W.ret (E.ret1 rfl rfl (fun w1 hw => ?_))))
   obtain rfl := Option.some.inj h
   exact ⟨_, _, rfl, ⟨_, rfl, rfl⟩, hw⟩
set_option maxRecDepth 100000 in
set_option maxHeartbeats 8000000 in
theorem w40_slices_Clone_string (a0 : (List (List UInt8))) (u0 : Value) (w : World) (r : (List (List UInt8))) (h : m40_slices_Clone_string a0 = some r) (hA0 : At w u0 1 (a0.map SR)) : Does Try.prog 40 [u0] w fun u m => ∃ v0, u = v0 ∧ m = [.sl v0 9 1 (r.map SR)] := by
  rw [m40_slices_Clone_string] at h
  rcases hA0.shape with ⟨rfl, hn⟩ | ⟨ad, cap, rfl, hl, hm⟩
  ·
   obtain rfl : a0 = [] := by simpa using hn
   replace h : some ([] : List (List UInt8)) = some r := by simpa [app] using h
   refine body (n := 8) Try.func40 rfl rfl rfl (Cls.refl w) ?_
   refine W.seq (W.region (L.y rfl (Y.assign rfl) ?_))
   refine L.nil (E.thenN (W.seq (W.seq (W.region (L.y rfl (Y.move rfl) ?_)))))
   refine L.y rfl (Y.eqlNil Try.underlying43 rfl rfl) ?_
   refine L.nil (E.thenN (W.condT rfl ?_))
   refine W.seq (W.region (L.y rfl (Y.assign rfl) ?_))
   refine L.nil (E.thenN (W.ret (E.thenR (E.ret1 rfl rfl (fun w1 hw => ?_)))))
   obtain rfl := Option.some.inj h
   exact ⟨_, _, rfl, ⟨_, rfl, rfl⟩, (hw.nilSl 9 1)⟩
  ·
   refine body (n := 8) Try.func40 rfl rfl rfl (Cls.refl w) ?_
   refine W.seq (W.region (L.y rfl (Y.assign rfl) ?_))
   refine L.nil (E.thenN (W.seq (W.seq (W.region (L.y rfl (Y.move rfl) ?_)))))
   refine L.y rfl (Y.eqlNil Try.underlying43 rfl rfl) ?_
   refine L.nil (E.thenN (W.condF rfl ?_))
   refine W.skip (E.thenN (W.seq (W.region (L.lit0 rfl Try.underlying43 eL9 ?_))))
   intro b1
   refine L.y rfl (Y.move rfl) ?_
   refine L.appM (i := 0) (g := SR) (l := []) (more := a0) h rfl Try.underlying43 eL9 rfl rfl rfl (fun w' hw => hA0.cls0 hw) (plain_SR _) rfl ?_
   intro v2 l3 el3 h
   refine L.y rfl (Y.assign rfl) ?_
   refine L.nil (E.thenN (W.ret (E.ret1 rfl rfl (fun w1 hw => ?_))))
   obtain rfl := Option.some.inj h
   exact ⟨_, _, rfl, ⟨_, rfl, rfl⟩, hw⟩
set_option maxRecDepth 100000 in
set_option maxHeartbeats 8000000 in
theorem w41_tree_node (a0 : (List Int)) (gP46 : Nat → Nat) (u0 : Value) (w : World) (r : (List Int)) (h : m41_tree_node a0 = some r) (hA0 : At w u0 1 (a0.map (PR gP46))) : Does Try.prog 41 [u0] w fun u m => ∃ v0, u = v0 ∧ m = [.sl v0 42 1 (r.map (PR gP46))] := by
  rw [m41_tree_node] at h
  rcases hA0.shape with ⟨rfl, hn⟩ | ⟨ad, cap, rfl, hl, hm⟩
  ·
   obtain rfl : a0 = [] := by simpa using hn
   replace h : some ([] : List Int) = some r := by simpa [app] using h
   refine body (n := 8) Try.func41 rfl rfl rfl (Cls.refl w) ?_
   refine W.seq (W.region (L.y rfl (Y.assign rfl) ?_))
   refine L.nil (E.thenN (W.seq (W.seq (W.region (L.y rfl (Y.move rfl) ?_)))))
   refine L.y rfl (Y.eqlNil Try.underlying44 rfl rfl) ?_
   refine L.nil (E.thenN (W.condT rfl ?_))
   refine W.seq (W.region (L.y rfl (Y.assign rfl) ?_))
   refine L.nil (E.thenN (W.ret (E.thenR (E.ret1 rfl rfl (fun w1 hw => ?_)))))
   obtain rfl := Option.some.inj h
   exact ⟨_, _, rfl, ⟨_, rfl, rfl⟩, (hw.nilSl 42 1)⟩
  ·
   refine body (n := 8) Try.func41 rfl rfl rfl (Cls.refl w) ?_
   refine W.seq (W.region (L.y rfl (Y.assign rfl) ?_))
   refine L.nil (E.thenN (W.seq (W.seq (W.region (L.y rfl (Y.move rfl) ?_)))))
   refine L.y rfl (Y.eqlNil Try.underlying44 rfl rfl) ?_
   refine L.nil (E.thenN (W.condF rfl ?_))
   refine W.skip (E.thenN (W.seq (W.region (L.lit0 rfl Try.underlying44 eL42 ?_))))
   intro b1
   refine L.y rfl (Y.move rfl) ?_
   refine L.appM (i := 0) (g := (PR gP46)) (l := []) (more := a0) h rfl Try.underlying44 eL42 rfl rfl rfl (fun w' hw => hA0.cls0 hw) (plain_P _) rfl ?_
   intro v2 l3 el3 h
   refine L.y rfl (Y.assign rfl) ?_
   refine L.nil (E.thenN (W.ret (E.ret1 rfl rfl (fun w1 hw => ?_))))
   obtain rfl := Option.some.inj h
   exact ⟨_, _, rfl, ⟨_, rfl, rfl⟩, hw⟩
set_option maxRecDepth 100000 in
set_option maxHeartbeats 8000000 in
theorem w29_tree_node_split (a0 : Int) (A46 : (List Tnode)) (gP46 : Nat → Nat) (qP46 : Nat → List Value) (w : World) (r : ((List Tnode) × Int)) (h : m29_tree_node_split a0 A46 = some r) (F : List Nat) (hc0 : Cls w F [ar46 gP46 qP46 A46 []] w) : DoesF Try.prog 29 [VP gP46 a0] F w fun u m => ∃ G46 Q46, Gr gP46 A46.length G46 r.1.length ∧ u = VP G46 r.2 ∧ m = [ar46 G46 Q46 r.1 []] := by
  rw [m29_tree_node_split] at h
  obtain ⟨g46, hg46⟩ : ∃ g, g = gP46 := ⟨_, rfl⟩
  have hGr46 : Gr g46 A46.length gP46 A46.length := hg46 ▸ Gr.refl _ _
  refine body (n := 77) Try.func29 rfl rfl rfl hc0 ?_
  refine W.seq (W.region (L.y rfl (Y.assign rfl) ?_))
  refine L.nil (E.thenN (W.seq (W.region (L.y rfl (Y.move rfl) ?_))))
  obtain ⟨u1, eu1, h⟩ := bind1S h
  refine L.to (D := Cls w F [.obj (gP46 a0.toNat) [(gv (qP46 a0.toNat) 0), (gv (qP46 a0.toNat) 1), (gv (qP46 a0.toNat) 2)] 46, .sl (gv (qP46 a0.toNat) 0) 3 1 (u1.keys_.map I), .sl (gv (qP46 a0.toNat) 1) 9 1 (u1.texts_.map SR), .sl (gv (qP46 a0.toNat) 2) 42 1 (u1.kids_.map (PR gP46)), ar46 gP46 qP46 A46 (a0.toNat :: [])]) (fun _ hw => hw.arOpen (p := 0) rfl eu1 List.not_mem_nil) ?_
  refine L.y rfl (Y.apNil rfl eu1) ?_
  refine L.y rfl (Y.fieldP fd46_0 rfl) ?_
  refine L.y rfl (Y.loadP (i := 0) ag25 rfl rfl rfl) ?_
  refine L.y rfl (Y.lenM (g := I) (l := u1.keys_) Try.underlying25 rfl (fun w hw => As.at_ (hw.get (i := 1) rfl))) ?_
  refine L.m (V := fun x2 => .int .i64 x2) h rfl (Y.quoM rfl rfl) (fun x2 ex2 h => ?_)
  refine L.y rfl (Y.assign rfl) ?_
  refine L.nil (E.thenN (W.seq (W.drawn2 (k := 19) (stC [] [] (Cls w F [.obj (gP46 a0.toNat) [(gv (qP46 a0.toNat) 0), (gv (qP46 a0.toNat) 1), (gv (qP46 a0.toNat) 2)] 46, .sl (gv (qP46 a0.toNat) 0) 3 1 (u1.keys_.map I), .sl (gv (qP46 a0.toNat) 1) 9 1 (u1.texts_.map SR), .sl (gv (qP46 a0.toNat) 2) 42 1 (u1.kids_.map (PR gP46)), ar46 gP46 qP46 A46 (a0.toNat :: [])])) rfl mixed (fun _ hw => hw.drew) (Sc.atD (fun _ hw => hw)) ?_)))
  refine V2.zz [] (Zc.fin (fun _ hw => hw)) (fun hz3 => ?_)
  refine V2.y (i := 0) (Nx2.of [] (by kernel_rfl) rfl hz3) rfl rfl rfl (Y.move rfl) ?_
  refine V2.apNil (i := 1) (Nx2.of [] (by kernel_rfl) rfl hz3) rfl rfl rfl eu1 ?_
  refine V2.y (i := 2) (Nx2.of [] (by kernel_rfl) rfl hz3) rfl rfl rfl (Y.fieldP fd46_0 rfl) ?_
  refine V2.y (i := 3) (Nx2.of [] (by kernel_rfl) rfl hz3) rfl rfl rfl (Y.loadP (i := 0) ag25 rfl rfl rfl) ?_
  refine V2.y (i := 4) (Nx2.of [] (by kernel_rfl) rfl hz3) rfl rfl rfl (Y.move rfl) ?_
  refine V2.m (i := 5) (V' := fun x4 => .int .i64 x4) h (Nx2.of [] (by kernel_rfl) rfl hz3) rfl rfl rfl (Y.addM rfl rfl) (fun x4 ex4 h => ?_)
  refine V2.m (i := 6) (V' := fun _ => dropv (gv (qP46 a0.toNat) 0) x4.toNat 1) h (Nx2.of [] (by kernel_rfl) rfl hz3) rfl rfl rfl (Y.dropM (g := I) Try.underlying25 sz3 rfl rfl (fun w hw => As.at_ (hw.get (i := 1) rfl))) (fun l5 el5 h => ?_)
  refine V2.y (i := 8) (Nx2.of [] (by kernel_rfl) rfl hz3) rfl rfl rfl (Y.move rfl) ?_
  refine V2.apNil (i := 9) (Nx2.of [] (by kernel_rfl) rfl hz3) rfl rfl rfl eu1 ?_
  refine V2.y (i := 10) (Nx2.of [] (by kernel_rfl) rfl hz3) rfl rfl rfl (Y.fieldP fd46_1 rfl) ?_
  refine V2.y (i := 11) (Nx2.of [] (by kernel_rfl) rfl hz3) rfl rfl rfl (Y.loadP (i := 0) ag43 rfl rfl rfl) ?_
  refine V2.y (i := 12) (Nx2.of [] (by kernel_rfl) rfl hz3) rfl rfl rfl (Y.move rfl) ?_
  refine V2.m (i := 13) (V' := fun x6 => .int .i64 x6) h (Nx2.of [] (by kernel_rfl) rfl hz3) rfl rfl rfl (Y.addM rfl rfl) (fun x6 ex6 h => ?_)
  refine V2.m (i := 14) (V' := fun _ => dropv (gv (qP46 a0.toNat) 1) x6.toNat 1) h (Nx2.of [] (by kernel_rfl) rfl hz3) rfl rfl rfl (Y.dropM (g := SR) Try.underlying43 sz9 rfl rfl (fun w hw => As.at_ (hw.get (i := 2) rfl))) (fun l7 el7 h => ?_)
  refine V2.eff (i := 7) (by kernel_rfl) rfl ?_
  obtain ⟨l8, e10, h⟩ := bind1S h
  refine L.does rfl en39 rfl (fun w' hw => w39_slices_Clone_int l5 (dropv (gv (qP46 a0.toNat) 0) x4.toNat 1) w' _ e10 (((As.at_ (hw.get (i := 1) rfl)).dropM el5))) ?_
  rintro v9 _ ⟨_, rfl, rfl⟩
  refine L.nil (E.toV2 (stC [] [] (Cls w F [.sl v9 3 1 (l8.map I), .obj (gP46 a0.toNat) [(gv (qP46 a0.toNat) 0), (gv (qP46 a0.toNat) 1), (gv (qP46 a0.toNat) 2)] 46, .sl (gv (qP46 a0.toNat) 0) 3 1 (u1.keys_.map I), .sl (gv (qP46 a0.toNat) 1) 9 1 (u1.texts_.map SR), .sl (gv (qP46 a0.toNat) 2) 42 1 (u1.kids_.map (PR gP46)), ar46 gP46 qP46 A46 (a0.toNat :: [])])) 7 (by kernel_rfl) (Sc.stayD (fun _ hw => hw.sel [1, 2, 3, 4, 5] (by decide) rfl)) (Sc.atD (fun _ hw => hw)) ?_)
  refine V2.eff (i := 15) (by kernel_rfl) rfl ?_
  obtain ⟨l11, e13, h⟩ := bind1S h
  refine L.does rfl en40 rfl (fun w' hw => w40_slices_Clone_string l7 (dropv (gv (qP46 a0.toNat) 1) x6.toNat 1) w' _ e13 (((As.at_ (hw.get (i := 3) rfl)).dropM el7))) ?_
  rintro v12 _ ⟨_, rfl, rfl⟩
  refine L.nil (E.toV2 (stC [] [] (Cls w F [.sl v12 9 1 (l11.map SR), .sl v9 3 1 (l8.map I), .obj (gP46 a0.toNat) [(gv (qP46 a0.toNat) 0), (gv (qP46 a0.toNat) 1), (gv (qP46 a0.toNat) 2)] 46, .sl (gv (qP46 a0.toNat) 0) 3 1 (u1.keys_.map I), .sl (gv (qP46 a0.toNat) 1) 9 1 (u1.texts_.map SR), .sl (gv (qP46 a0.toNat) 2) 42 1 (u1.kids_.map (PR gP46)), ar46 gP46 qP46 A46 (a0.toNat :: [])])) 15 (by kernel_rfl) (Sc.stayD (fun _ hw => hw.sel [1, 2, 3, 4, 5, 6] (by decide) rfl)) (Sc.atD (fun _ hw => hw)) ?_)
  refine V2.zz [] (Zc.fin (fun _ hw => hw)) (fun hz14 => ?_)
  refine V2.y (i := 16) (Nx2.of [] (by kernel_rfl) rfl hz14) rfl rfl rfl (Y.buildC (cells := #[v9, v12, .slice none 0 0]) rfl (fun w hw => by rcases ((As.at_ (hw.get (i := 1) rfl))).shape with ⟨h0, _⟩ | ⟨_, _, h0, _, _⟩ <;> rcases ((As.at_ (hw.get (i := 0) rfl))).shape with ⟨h1, _⟩ | ⟨_, _, h1, _, _⟩ <;> simp only [h0, h1] <;> kernel_rfl)) ?_
  refine V2.eff (i := 17) (by kernel_rfl) rfl ?_
  refine L.box rfl rfl ?_
  intro b15
  refine L.nil (E.toV2 (stC [] [] (Cls w F [.obj b15 [v9, v12, .slice none 0 0] 46, .sl v12 9 1 (l11.map SR), .sl v9 3 1 (l8.map I), .obj (gP46 a0.toNat) [(gv (qP46 a0.toNat) 0), (gv (qP46 a0.toNat) 1), (gv (qP46 a0.toNat) 2)] 46, .sl (gv (qP46 a0.toNat) 0) 3 1 (u1.keys_.map I), .sl (gv (qP46 a0.toNat) 1) 9 1 (u1.texts_.map SR), .sl (gv (qP46 a0.toNat) 2) 42 1 (u1.kids_.map (PR gP46)), ar46 gP46 qP46 A46 (a0.toNat :: [])])) 17 (by kernel_rfl) (Sc.stayD (fun _ hw => hw.sel [1, 2, 3, 4, 5, 6, 7] (by decide) rfl)) (Sc.atD (fun _ hw => hw)) ?_)
  refine V2.zz [] (Zc.fin (fun _ hw => hw)) (fun hz16 => ?_)
  refine V2.y (i := 18) (Nx2.of [] (by kernel_rfl) rfl hz16) rfl rfl rfl (Y.assign rfl) ?_
  refine V2.done (by kernel_rfl) ?_
  refine E.thenN (W.seq (W.drawn2 (k := 22) (stC [[18, 21], [21]] [Cls w F [.obj b15 [v9, v12, .slice none 0 0] 46, .sl v12 9 1 (l11.map SR), .sl v9 3 1 (l8.map I), .obj (gP46 a0.toNat) [(gv (qP46 a0.toNat) 0), (gv (qP46 a0.toNat) 1), (gv (qP46 a0.toNat) 2)] 46, .sl (gv (qP46 a0.toNat) 0) 3 1 (u1.keys_.map I), .sl (gv (qP46 a0.toNat) 1) 9 1 (u1.texts_.map SR), .sl (gv (qP46 a0.toNat) 2) 42 1 (u1.kids_.map (PR gP46)), ar46 gP46 qP46 A46 (a0.toNat :: [])], Cls w F [.obj b15 [v9, v12, .slice none 0 0] 46, .sl v12 9 1 (l11.map SR), .sl v9 3 1 (l8.map I), .sl (gv (qP46 a0.toNat) 1) 9 1 (u1.texts_.map SR), .sl (gv (qP46 a0.toNat) 2) 42 1 (u1.kids_.map (PR gP46)), ar46 gP46 qP46 A46 (a0.toNat :: [])]] (Cls w F [.obj b15 [v9, v12, .slice none 0 0] 46, .sl v12 9 1 (l11.map SR), .sl v9 3 1 (l8.map I), .sl (gv (qP46 a0.toNat) 2) 42 1 (u1.kids_.map (PR gP46)), ar46 gP46 qP46 A46 (a0.toNat :: [])])) rfl mixed (fun _ hw => hw.drew) (Sc.now (by kernel_rfl) (fun _ hw => hw)) ?_))
  refine V2.zz [] (Zc.on' (Zc.on' (Zc.fin (fun _ hw => hw)) (fun _ hw => hw.sel [0, 1, 2, 4, 5] (by decide) rfl)) (fun _ hw => hw.sel [0, 1, 2, 6, 7] (by decide) rfl)) (fun hz35 => ?_)
  refine V2.y (i := 0) (Nx2.of [] (by kernel_rfl) rfl hz35) rfl rfl rfl (Y.move rfl) ?_
  refine V2.y (i := 1) (Nx2.of [] (by kernel_rfl) rfl hz35) rfl rfl rfl (Y.move rfl) ?_
  refine V2.y (i := 2) (Nx2.of [] (by kernel_rfl) rfl hz35) rfl rfl rfl (Y.move rfl) ?_
  refine V2.apNil (i := 3) (Nx2.of [] (by kernel_rfl) rfl hz35) rfl rfl rfl eu1 ?_
  refine V2.y (i := 4) (Nx2.of [] (by kernel_rfl) rfl hz35) rfl rfl rfl (Y.fieldP fd46_0 rfl) ?_
  refine V2.zz [18, 21] (Zc.at1 (fun _ hw => hw)) (fun hz37 => ?_)
  refine V2.y (i := 5) (Nx2.of [18, 21] (by kernel_rfl) rfl hz37) rfl rfl rfl (Y.loadP (i := 3) ag25 rfl rfl rfl) ?_
  refine V2.y (i := 6) (Nx2.of [] (by kernel_rfl) rfl hz35) rfl rfl rfl (Y.move rfl) ?_
  refine V2.m (i := 7) (V' := fun x38 => .int .i64 x38) h (Nx2.of [] (by kernel_rfl) rfl hz35) rfl rfl rfl (Y.addM rfl rfl) (fun x38 ex38 h => ?_)
  refine V2.m (i := 8) (V' := fun _ => cutv (gv (qP46 a0.toNat) 0) x38.toNat) h (Nx2.of [18, 21] (by kernel_rfl) rfl hz37) rfl rfl rfl (Y.cutM (g := I) Try.underlying25 sz3 rfl rfl (fun w hw => As.at_ (hw.get (i := 4) rfl))) (fun l40 el40 h => ?_)
  refine V2.y (i := 9) (Nx2.of [] (by kernel_rfl) rfl hz35) rfl rfl rfl (Y.move rfl) ?_
  refine V2.apNil (i := 10) (Nx2.of [] (by kernel_rfl) rfl hz35) rfl rfl rfl eu1 ?_
  refine V2.y (i := 11) (Nx2.of [] (by kernel_rfl) rfl hz35) rfl rfl rfl (Y.fieldP fd46_1 rfl) ?_
  refine V2.y (i := 12) (Nx2.of [18, 21] (by kernel_rfl) rfl hz37) rfl rfl rfl (Y.loadP (i := 3) ag43 rfl rfl rfl) ?_
  refine V2.y (i := 13) (Nx2.of [] (by kernel_rfl) rfl hz35) rfl rfl rfl (Y.move rfl) ?_
  refine V2.m (i := 14) (V' := fun x42 => .int .i64 x42) h (Nx2.of [] (by kernel_rfl) rfl hz35) rfl rfl rfl (Y.addM rfl rfl) (fun x42 ex42 h => ?_)
  refine V2.zz [21] (Zc.on' (Zc.at1 (fun _ hw => hw)) (fun _ hw => hw.sel [0, 1, 2, 5, 6, 7] (by decide) rfl)) (fun hz43 => ?_)
  refine V2.m (i := 15) (V' := fun _ => cutv (gv (qP46 a0.toNat) 1) x42.toNat) h (Nx2.of [21] (by kernel_rfl) rfl hz43) rfl rfl rfl (Y.cutM (g := SR) Try.underlying43 sz9 rfl rfl (fun w hw => As.at_ (hw.get (i := 3) rfl))) (fun l44 el44 h => ?_)
  refine V2.apNil (i := 16) (Nx2.of [] (by kernel_rfl) rfl hz35) rfl rfl rfl eu1 ?_
  refine V2.y (i := 17) (Nx2.of [] (by kernel_rfl) rfl hz35) rfl rfl rfl (Y.fieldP fd46_0 rfl) ?_
  refine V2.eff (i := 18) (by kernel_rfl) rfl ?_
  refine L.cutT (i := 4) (g := I) el40 rfl ?_
  refine L.storeV (i := 3) sz25 rfl rfl (fun _ hw => (As.at_ (hw.get (i := 4) rfl)).one) rfl (Nat.le_of_ble_eq_true rfl) ?_
  refine L.nil (E.toV2 (stC [[21]] [Cls w F [.obj b15 [v9, v12, .slice none 0 0] 46, .sl v12 9 1 (l11.map SR), .sl v9 3 1 (l8.map I), .sl (cutv (gv (qP46 a0.toNat) 0) x38.toNat) 3 1 (l40.map I), .sl (gv (qP46 a0.toNat) 1) 9 1 (u1.texts_.map SR), .sl (gv (qP46 a0.toNat) 2) 42 1 (u1.kids_.map (PR gP46)), ar46 gP46 qP46 A46 (a0.toNat :: [])]] (Cls w F [.obj b15 [v9, v12, .slice none 0 0] 46, .sl v12 9 1 (l11.map SR), .sl v9 3 1 (l8.map I), .sl (cutv (gv (qP46 a0.toNat) 0) x38.toNat) 3 1 (l40.map I), .sl (gv (qP46 a0.toNat) 2) 42 1 (u1.kids_.map (PR gP46)), ar46 gP46 qP46 A46 (a0.toNat :: [])])) 18 (by kernel_rfl) (Sc.past rfl (Sc.stay (fun _ hw => hw.sel [0, 1, 2, 4, 5, 6] (by decide) rfl) (Sc.stayD (fun _ hw => hw.sel [0, 1, 2, 4, 5] (by decide) rfl)))) (Sc.now (by kernel_rfl) (fun _ hw => hw.sel [0, 1, 2, 4, 5, 6, 7] (by decide) rfl)) ?_)
  refine V2.zz [] (Zc.on' (Zc.fin (fun _ hw => hw)) (fun _ hw => hw.sel [0, 1, 2, 3, 5, 6] (by decide) rfl)) (fun hz45 => ?_)
  refine V2.apNil (i := 19) (Nx2.of [] (by kernel_rfl) rfl hz45) rfl rfl rfl eu1 ?_
  refine V2.y (i := 20) (Nx2.of [] (by kernel_rfl) rfl hz45) rfl rfl rfl (Y.fieldP fd46_1 rfl) ?_
  refine V2.eff (i := 21) (by kernel_rfl) rfl ?_
  refine L.cutT (i := 5) (g := SR) el44 rfl ?_
  refine L.storeV (i := 3) sz43 rfl rfl (fun _ hw => (As.at_ (hw.get (i := 5) rfl)).one) rfl (Nat.le_of_ble_eq_true rfl) ?_
  refine L.nil (E.toV2 (stC [] [] (Cls w F [.obj b15 [v9, v12, .slice none 0 0] 46, .sl v12 9 1 (l11.map SR), .sl v9 3 1 (l8.map I), .sl (cutv (gv (qP46 a0.toNat) 0) x38.toNat) 3 1 (l40.map I), .sl (cutv (gv (qP46 a0.toNat) 1) x42.toNat) 9 1 (l44.map SR), .sl (gv (qP46 a0.toNat) 2) 42 1 (u1.kids_.map (PR gP46)), ar46 gP46 qP46 A46 (a0.toNat :: [])])) 21 (by kernel_rfl) (Sc.past rfl (Sc.stayD (fun _ hw => hw.sel [0, 1, 2, 3, 5, 6] (by decide) rfl))) (Sc.atD (fun _ hw => hw.sel [0, 1, 2, 4, 5, 6, 7] (by decide) rfl)) ?_)
  refine V2.done (by kernel_rfl) ?_
  refine E.thenN (W.seq (W.seq (W.region (L.y rfl (Y.move rfl) ?_))))
  refine L.y rfl (Y.apNil rfl eu1) ?_
  refine L.y rfl (Y.fieldP fd46_2 rfl) ?_
  refine L.y rfl (Y.loadP (i := 3) ag44 rfl rfl rfl) ?_
  refine L.y rfl (Y.lenM (g := (PR gP46)) (l := u1.kids_) Try.underlying44 rfl (fun w hw => As.at_ (hw.get (i := 6) rfl))) ?_
  refine L.ite h rfl (Y.gtr rfl rfl) (fun c46 h => ?_) (fun c46 h => ?_)
  ·
   refine L.nil (E.thenN (W.condT rfl ?_))
   refine W.seq (W.region (L.y rfl (Y.move rfl) ?_))
   refine L.y rfl (Y.move rfl) ?_
   refine L.y rfl (Y.apNil rfl eu1) ?_
   refine L.y rfl (Y.fieldP fd46_2 rfl) ?_
   refine L.y rfl (Y.loadP (i := 3) ag44 rfl rfl rfl) ?_
   refine L.y rfl (Y.move rfl) ?_
   refine L.m (V := fun x47 => .int .i64 x47) h rfl (Y.addM rfl rfl) (fun x47 ex47 h => ?_)
   refine L.m (V := fun _ => dropv (gv (qP46 a0.toNat) 2) x47.toNat 1) h rfl (Y.dropM (g := (PR gP46)) Try.underlying44 sz42 rfl rfl (fun w hw => As.at_ (hw.get (i := 6) rfl))) (fun l48 el48 h => ?_)
   obtain ⟨l49, e51, h⟩ := bind1S h
   refine L.does rfl en41 rfl (fun w' hw => w41_tree_node l48 gP46 (dropv (gv (qP46 a0.toNat) 2) x47.toNat 1) w' _ e51 (((As.at_ (hw.get (i := 6) rfl)).dropM el48))) ?_
   rintro v50 _ ⟨_, rfl, rfl⟩
   refine L.y rfl (Y.nilCheck rfl) ?_
   refine L.y rfl (Y.fieldP fd46_2 rfl) ?_
   refine L.storeV (i := 1) sz44 rfl rfl (fun _ hw => (As.at_ (hw.get (i := 0) rfl)).one) rfl (Nat.le_of_ble_eq_true rfl) ?_
   refine L.nil (E.thenN (W.region (L.y rfl (Y.move rfl) ?_)))
   refine L.y rfl (Y.move rfl) ?_
   refine L.y rfl (Y.apNil rfl eu1) ?_
   refine L.y rfl (Y.fieldP fd46_2 rfl) ?_
   refine L.y rfl (Y.loadP (i := 4) ag44 rfl rfl rfl) ?_
   refine L.y rfl (Y.move rfl) ?_
   refine L.m (V := fun x52 => .int .i64 x52) h rfl (Y.addM rfl rfl) (fun x52 ex52 h => ?_)
   obtain ⟨l53, el53, h⟩ := bind1S h
   refine L.cutM (i := 7) (g := (PR gP46)) el53 rfl Try.underlying44 sz42 rfl rfl rfl (fun v54 => ?_)
   refine L.y rfl (Y.apNil rfl eu1) ?_
   refine L.y rfl (Y.fieldP fd46_2 rfl) ?_
   refine L.storeV (i := 4) sz44 rfl rfl (fun _ hw => (As.at_ (hw.get (i := 7) rfl)).one) rfl (Nat.le_of_ble_eq_true rfl) ?_
   refine L.nil (E.thenN (W.seq (W.region (L.y rfl (Y.move rfl) ?_))))
   refine L.y rfl (Y.assign rfl) ?_
   refine L.nil (E.thenN (W.ret ?_))
   obtain ⟨_, ck55, h⟩ := bind1S h
   replace ck55 := ck_some ck55
   obtain ⟨ck55_0, ck55_1, ck55_2⟩ := ck55
   refine E.arNew (rowg := fun g => Tnode.rowA g) (subg := fun g => Tnode.subA g) (e := 46) (g := gP46) (gh := qP46) (l := A46) (hs := (a0.toNat :: [])) (b := b15) (u1 := (⟨l8, l11, l49⟩ : Tnode)) (vs' := [v9, v12, v50]) (m' := [.obj (gP46 a0.toNat) [(cutv (gv (qP46 a0.toNat) 0) x38.toNat), (cutv (gv (qP46 a0.toNat) 1) x42.toNat), v54] 46, .sl (cutv (gv (qP46 a0.toNat) 0) x38.toNat) 3 1 (l40.map I), .sl (cutv (gv (qP46 a0.toNat) 1) x42.toNat) 9 1 (l44.map SR), .sl v54 42 1 (l53.map (PR gP46))]) [1, 3, 2, 0, 8, 4, 5, 6, 7] h (by decide) rfl (holt eu1 ck55_2 (fun _ h => nomatch h)) (fun g' hg x hx v => Tnode.cg46 ⟨Nat.le_refl _, hg⟩ (ck55_0 x hx)) ?_
   intro gP46 q56 x57 l58 h hg59 hv60 hi61
   rw [hv60]
   have e62 := hi61 eu1
   replace hGr46 := hGr46.trans hg59
   rw [PR_up hg59 ck55_1]
   rw [g_up2 hg59 eu1 ck55_2]
   refine E.to (D := Cls w F [ar46 gP46 q56 l58 (a0.toNat :: []), .obj (gP46 a0.toNat) [(cutv (gv (qP46 a0.toNat) 0) x38.toNat), (cutv (gv (qP46 a0.toNat) 1) x42.toNat), v54] 46, .sl (cutv (gv (qP46 a0.toNat) 0) x38.toNat) 3 1 (l40.map I), .sl (cutv (gv (qP46 a0.toNat) 1) x42.toNat) 9 1 (l44.map SR), .sl v54 42 1 (l53.map (PR gP46))]) (fun _ hw => hw) ?_
   obtain ⟨l63, el63, h⟩ := bind1S h
   refine E.arClose (row := Tnode.rowA gP46) (sub := Tnode.subA gP46) (e := 46) (g := gP46) (gh := q56) (vs' := [(cutv (gv (qP46 a0.toNat) 0) x38.toNat), (cutv (gv (qP46 a0.toNat) 1) x42.toNat), v54]) (hs := []) (hs' := (a0.toNat :: [])) (m' := []) [1, 2, 3, 4, 0] el63 (by decide) rfl (fun _ => List.mem_cons) List.not_mem_nil ?_
   intro q64
   replace hGr46 := hGr46.upd el63
   refine E.to (D := Cls w F [ar46 gP46 q64 l63 []]) (fun _ hw => hw) ?_
   refine E.ret1 rfl rfl (fun w1 hw => ?_)
   obtain rfl := Option.some.inj h
   exact ⟨_, _, rfl, ⟨_, _, (hg46 ▸ hGr46), rfl, rfl⟩, hw⟩
  ·
   refine L.nil (E.thenN (W.condF rfl ?_))
   refine W.skip (E.thenN (W.seq (W.region (L.y rfl (Y.move rfl) ?_))))
   refine L.y rfl (Y.assign rfl) ?_
   refine L.nil (E.thenN (W.ret (E.nilSl 42 1 ?_)))
   obtain ⟨_, ck65, h⟩ := bind1S h
   replace ck65 := ck_some ck65
   obtain ⟨ck65_0, ck65_1, ck65_2⟩ := ck65
   refine E.arNew (rowg := fun g => Tnode.rowA g) (subg := fun g => Tnode.subA g) (e := 46) (g := gP46) (gh := qP46) (l := A46) (hs := (a0.toNat :: [])) (b := b15) (u1 := (⟨l8, l11, []⟩ : Tnode)) (vs' := [v9, v12, (.slice none 0 0)]) (m' := [.obj (gP46 a0.toNat) [(cutv (gv (qP46 a0.toNat) 0) x38.toNat), (cutv (gv (qP46 a0.toNat) 1) x42.toNat), (gv (qP46 a0.toNat) 2)] 46, .sl (cutv (gv (qP46 a0.toNat) 0) x38.toNat) 3 1 (l40.map I), .sl (cutv (gv (qP46 a0.toNat) 1) x42.toNat) 9 1 (l44.map SR), .sl (gv (qP46 a0.toNat) 2) 42 1 (u1.kids_.map (PR gP46))]) [1, 3, 2, 0, 8, 4, 5, 6, 7] h (by decide) rfl (holt eu1 ck65_2 (fun _ h => nomatch h)) (fun g' hg x hx v => Tnode.cg46 ⟨Nat.le_refl _, hg⟩ (ck65_0 x hx)) ?_
   intro gP46 q66 x67 l68 h hg69 hv70 hi71
   rw [hv70]
   have e72 := hi71 eu1
   replace hGr46 := hGr46.trans hg69
   rw [PR_up hg69 ck65_1]
   rw [g_up2 hg69 eu1 ck65_2]
   refine E.to (D := Cls w F [ar46 gP46 q66 l68 (a0.toNat :: []), .obj (gP46 a0.toNat) [(cutv (gv (qP46 a0.toNat) 0) x38.toNat), (cutv (gv (qP46 a0.toNat) 1) x42.toNat), (gv (qP46 a0.toNat) 2)] 46, .sl (cutv (gv (qP46 a0.toNat) 0) x38.toNat) 3 1 (l40.map I), .sl (cutv (gv (qP46 a0.toNat) 1) x42.toNat) 9 1 (l44.map SR), .sl (gv (qP46 a0.toNat) 2) 42 1 (u1.kids_.map (PR gP46))]) (fun _ hw => hw) ?_
   obtain ⟨l73, el73, h⟩ := bind1S h
   refine E.arClose (row := Tnode.rowA gP46) (sub := Tnode.subA gP46) (e := 46) (g := gP46) (gh := q66) (vs' := [(cutv (gv (qP46 a0.toNat) 0) x38.toNat), (cutv (gv (qP46 a0.toNat) 1) x42.toNat), (gv (qP46 a0.toNat) 2)]) (hs := []) (hs' := (a0.toNat :: [])) (m' := []) [1, 2, 3, 4, 0] el73 (by decide) rfl (fun _ => List.mem_cons) List.not_mem_nil ?_
   intro q74
   replace hGr46 := hGr46.upd el73
   refine E.to (D := Cls w F [ar46 gP46 q74 l73 []]) (fun _ hw => hw) ?_
   refine E.ret1 rfl rfl (fun w1 hw => ?_)
   obtain rfl := Option.some.inj h
   exact ⟨_, _, rfl, ⟨_, _, (hg46 ▸ hGr46), rfl, rfl⟩, hw⟩
set_option maxRecDepth 100000 in
set_option maxHeartbeats 8000000 in
theorem w18_tree_node_lift (a0 : Int) (a1 : Int) (A46 : (List Tnode)) (gP46 : Nat → Nat) (qP46 : Nat → List Value) (w : World) (r : (List Tnode)) (h : m18_tree_node_lift a0 a1 A46 = some r) (F : List Nat) (hc0 : Cls w F [ar46 gP46 qP46 A46 []] w) : DoesF Try.prog 18 [VP gP46 a0, .int .i64 a1] F w fun u m => ∃ G46 Q46, Gr gP46 A46.length G46 r.length ∧ u = .tuple #[] ∧ m = [ar46 G46 Q46 r []] := by
  rw [m18_tree_node_lift] at h
  obtain ⟨g46, hg46⟩ : ∃ g, g = gP46 := ⟨_, rfl⟩
  have hGr46 : Gr g46 A46.length gP46 A46.length := hg46 ▸ Gr.refl _ _
  refine body (n := 92) Try.func18 rfl rfl rfl hc0 ?_
  refine W.seq (W.region (L.y rfl (Y.move rfl) ?_))
  obtain ⟨u1, eu1, h⟩ := bind1S h
  refine L.to (D := Cls w F [.obj (gP46 a0.toNat) [(gv (qP46 a0.toNat) 0), (gv (qP46 a0.toNat) 1), (gv (qP46 a0.toNat) 2)] 46, .sl (gv (qP46 a0.toNat) 0) 3 1 (u1.keys_.map I), .sl (gv (qP46 a0.toNat) 1) 9 1 (u1.texts_.map SR), .sl (gv (qP46 a0.toNat) 2) 42 1 (u1.kids_.map (PR gP46)), ar46 gP46 qP46 A46 (a0.toNat :: [])]) (fun _ hw => hw.arOpen (p := 0) rfl eu1 List.not_mem_nil) ?_
  refine L.y rfl (Y.apNil rfl eu1) ?_
  refine L.y rfl (Y.fieldP fd46_2 rfl) ?_
  refine L.y rfl (Y.loadP (i := 0) ag44 rfl rfl rfl) ?_
  refine L.y rfl (Y.move rfl) ?_
  refine L.m (V := fun _ => el (gv (qP46 a0.toNat) 2) (a1.toNat * 1)) h rfl (Y.indexM (g := (PR gP46)) (l := u1.kids_) Try.underlying44 sz42 rfl rfl (fun w hw => As.at_ (hw.get (i := 3) rfl))) (fun x2 ex2 h => ?_)
  refine L.y rfl (Y.loadE1 (u := VP gP46 x2) ag42 rfl (fun w hw => As.at_ (hw.get (i := 3) rfl)) (idx_map ex2)) ?_
  refine L.y rfl (Y.assign rfl) ?_
  refine L.nil (E.thenN (W.seqJ (fun gs D => gs = [(0, VP gP46 a0), (1, .int .i64 a1), (4, VP gP46 x2)] ∧ D = Cls w F [ar46 gP46 qP46 A46 []] ∧ m18_tree_node_lift_K1 a0 A46 x2 a1 = some r) ?_ ?_))
  ·
   refine W.seq (W.region (L.y rfl (Y.move rfl) ?_))
   refine L.to (D := Cls w F [ar46 gP46 qP46 A46 []]) (fun _ hw => hw.arShut (hs' := (a0.toNat :: [])) [0, 1, 2, 3, 4] eu1 (by decide) rfl (fun _ => List.mem_cons) List.not_mem_nil) ?_
   obtain ⟨u79, eu79, h⟩ := bind1S h
   refine L.to (D := Cls w F [.obj (gP46 x2.toNat) [(gv (qP46 x2.toNat) 0), (gv (qP46 x2.toNat) 1), (gv (qP46 x2.toNat) 2)] 46, .sl (gv (qP46 x2.toNat) 0) 3 1 (u79.keys_.map I), .sl (gv (qP46 x2.toNat) 1) 9 1 (u79.texts_.map SR), .sl (gv (qP46 x2.toNat) 2) 42 1 (u79.kids_.map (PR gP46)), ar46 gP46 qP46 A46 (x2.toNat :: [])]) (fun _ hw => hw.arOpen (p := 0) rfl eu79 List.not_mem_nil) ?_
   refine L.y rfl (Y.apNil rfl eu79) ?_
   refine L.y rfl (Y.fieldP fd46_0 rfl) ?_
   refine L.y rfl (Y.loadP (i := 0) ag25 rfl rfl rfl) ?_
   refine L.y rfl (Y.lenM (g := I) (l := u79.keys_) Try.underlying25 rfl (fun w hw => As.at_ (hw.get (i := 1) rfl))) ?_
   refine L.ite h rfl (Y.leq rfl rfl) (fun c80 h => ?_) (fun c80 h => ?_)
   ·
    refine L.nil (E.thenN (W.condT rfl ?_))
    refine W.ret (E.KSR (E.to (D := Cls w F [ar46 gP46 qP46 A46 []]) (fun _ hw => hw.arShut (hs' := (x2.toNat :: [])) [0, 1, 2, 3, 4] eu79 (by decide) rfl (fun _ => List.mem_cons) List.not_mem_nil) ?_))
    refine E.ret0 rfl (fun w1 hw => ?_)
    obtain rfl := Option.some.inj h
    exact ⟨_, _, rfl, ⟨_, _, (hg46 ▸ hGr46), rfl, rfl⟩, hw⟩
   ·
    refine L.nil (E.thenN (W.condF rfl ?_))
    refine W.skip (E.to (D := Cls w F [ar46 gP46 qP46 A46 []]) (fun _ hw => hw.arShut (hs' := (x2.toNat :: [])) [0, 1, 2, 3, 4] eu79 (by decide) rfl (fun _ => List.mem_cons) List.not_mem_nil) ?_)
    exact E.joinJ ⟨rfl, rfl, h⟩ ⟨rfl, rfl, rfl, trivial⟩ (fun _ hw => hw)
  ·
   rintro _ _ ⟨rfl, rfl, h⟩
   rw [m18_tree_node_lift_K1] at h
   refine W.seq (W.region (L.y rfl (Y.move rfl) ?_))
   obtain ⟨_, ck3, h⟩ := bind1S h
   replace ck3 := ck_some ck3
   obtain ⟨ck3_0, ck3_1⟩ := ck3
   obtain ⟨l4, x5, e6, h⟩ := bind2S h
   refine L.doesP (A := [ar46 gP46 qP46 A46 []]) (M := []) rfl en29 rfl (fun w' hw => w29_tree_node_split x2 A46 gP46 qP46 w' _ e6 _ hw.lend) ?_
   rintro _ _ ⟨gP46, q7, hg8, rfl, rfl⟩
   replace hGr46 := hGr46.trans hg8
   rw [VP_up hg8 ck3_0]
   rw [VP_up hg8 ck3_1]
   refine L.to (D := Cls w F [ar46 gP46 q7 l4 []]) (fun _ hw => hw) ?_
   refine L.y rfl (Y.assign rfl) ?_
   refine L.nil (E.thenN (W.seq (W.region (L.y rfl (Y.move rfl) ?_))))
   obtain ⟨u9, eu9, h⟩ := bind1S h
   refine L.to (D := Cls w F [.obj (gP46 x2.toNat) [(gv (q7 x2.toNat) 0), (gv (q7 x2.toNat) 1), (gv (q7 x2.toNat) 2)] 46, .sl (gv (q7 x2.toNat) 0) 3 1 (u9.keys_.map I), .sl (gv (q7 x2.toNat) 1) 9 1 (u9.texts_.map SR), .sl (gv (q7 x2.toNat) 2) 42 1 (u9.kids_.map (PR gP46)), ar46 gP46 q7 l4 (x2.toNat :: [])]) (fun _ hw => hw.arOpen (p := 0) rfl eu9 List.not_mem_nil) ?_
   refine L.y rfl (Y.apNil rfl eu9) ?_
   refine L.y rfl (Y.fieldP fd46_0 rfl) ?_
   refine L.y rfl (Y.loadP (i := 0) ag25 rfl rfl rfl) ?_
   refine L.y rfl (Y.lenM (g := I) (l := u9.keys_) Try.underlying25 rfl (fun w hw => As.at_ (hw.get (i := 1) rfl))) ?_
   refine L.m (V := fun x10 => .int .i64 x10) h rfl (Y.subM rfl rfl) (fun x10 ex10 h => ?_)
   refine L.y rfl (Y.assign rfl) ?_
   refine L.nil (E.thenN (W.seq ?_))
   obtain ⟨u11, eu11, h⟩ := bind1S h
   obtain ⟨_, c12, h⟩ := bind1S h
   refine W.to (D := Cls w F [.obj (gP46 a0.toNat) [(gv (q7 a0.toNat) 0), (gv (q7 a0.toNat) 1), (gv (q7 a0.toNat) 2)] 46, .sl (gv (q7 a0.toNat) 0) 3 1 (u11.keys_.map I), .sl (gv (q7 a0.toNat) 1) 9 1 (u11.texts_.map SR), .sl (gv (q7 a0.toNat) 2) 42 1 (u11.kids_.map (PR gP46)), ar46 gP46 q7 l4 (a0.toNat :: x2.toNat :: []), .obj (gP46 x2.toNat) [(gv (q7 x2.toNat) 0), (gv (q7 x2.toNat) 1), (gv (q7 x2.toNat) 2)] 46, .sl (gv (q7 x2.toNat) 0) 3 1 (u9.keys_.map I), .sl (gv (q7 x2.toNat) 1) 9 1 (u9.texts_.map SR), .sl (gv (q7 x2.toNat) 2) 42 1 (u9.kids_.map (PR gP46))]) (fun _ hw => hw.arOpen (p := 4) rfl eu11 (nin1 (ck_some c12) eu11 eu9 List.not_mem_nil)) ?_
   refine W.drawn2 (k := 18) (stC [[14, 17], [17]] [Cls w F [.obj (gP46 a0.toNat) [(gv (q7 a0.toNat) 0), (gv (q7 a0.toNat) 1), (gv (q7 a0.toNat) 2)] 46, .sl (gv (q7 a0.toNat) 0) 3 1 (u11.keys_.map I), .sl (gv (q7 a0.toNat) 1) 9 1 (u11.texts_.map SR), .sl (gv (q7 a0.toNat) 2) 42 1 (u11.kids_.map (PR gP46)), ar46 gP46 q7 l4 (a0.toNat :: x2.toNat :: []), .obj (gP46 x2.toNat) [(gv (q7 x2.toNat) 0), (gv (q7 x2.toNat) 1), (gv (q7 x2.toNat) 2)] 46, .sl (gv (q7 x2.toNat) 0) 3 1 (u9.keys_.map I), .sl (gv (q7 x2.toNat) 1) 9 1 (u9.texts_.map SR), .sl (gv (q7 x2.toNat) 2) 42 1 (u9.kids_.map (PR gP46))], Cls w F [.obj (gP46 a0.toNat) [(gv (q7 a0.toNat) 0), (gv (q7 a0.toNat) 1), (gv (q7 a0.toNat) 2)] 46, .sl (gv (q7 a0.toNat) 1) 9 1 (u11.texts_.map SR), .sl (gv (q7 a0.toNat) 2) 42 1 (u11.kids_.map (PR gP46)), ar46 gP46 q7 l4 (a0.toNat :: x2.toNat :: []), .obj (gP46 x2.toNat) [(gv (q7 x2.toNat) 0), (gv (q7 x2.toNat) 1), (gv (q7 x2.toNat) 2)] 46, .sl (gv (q7 x2.toNat) 0) 3 1 (u9.keys_.map I), .sl (gv (q7 x2.toNat) 1) 9 1 (u9.texts_.map SR), .sl (gv (q7 x2.toNat) 2) 42 1 (u9.kids_.map (PR gP46))]] (Cls w F [.sl (gv (q7 a0.toNat) 1) 9 1 (u11.texts_.map SR), .sl (gv (q7 a0.toNat) 2) 42 1 (u11.kids_.map (PR gP46)), ar46 gP46 q7 l4 (a0.toNat :: x2.toNat :: []), .obj (gP46 x2.toNat) [(gv (q7 x2.toNat) 0), (gv (q7 x2.toNat) 1), (gv (q7 x2.toNat) 2)] 46, .sl (gv (q7 x2.toNat) 0) 3 1 (u9.keys_.map I), .sl (gv (q7 x2.toNat) 1) 9 1 (u9.texts_.map SR), .sl (gv (q7 x2.toNat) 2) 42 1 (u9.kids_.map (PR gP46))])) rfl mixed (fun _ hw => hw.drew) (Sc.now (by kernel_rfl) (fun _ hw => hw)) ?_
   refine V2.zz [] (Zc.on' (Zc.on' (Zc.fin (fun _ hw => hw)) (fun _ hw => hw.sel [1, 2, 3, 4, 5, 6, 7] (by decide) rfl)) (fun _ hw => hw.sel [2, 3, 4, 5, 6, 7, 8] (by decide) rfl)) (fun hz24 => ?_)
   refine V2.y (i := 0) (Nx2.of [] (by kernel_rfl) rfl hz24) rfl rfl rfl (Y.move rfl) ?_
   refine V2.y (i := 1) (Nx2.of [] (by kernel_rfl) rfl hz24) rfl rfl rfl (Y.move rfl) ?_
   refine V2.apNil (i := 2) (Nx2.of [] (by kernel_rfl) rfl hz24) rfl rfl rfl eu11 ?_
   refine V2.y (i := 3) (Nx2.of [] (by kernel_rfl) rfl hz24) rfl rfl rfl (Y.fieldP fd46_0 rfl) ?_
   refine V2.zz [17] (Zc.on' (Zc.at1 (fun _ hw => hw)) (fun _ hw => hw.sel [0, 2, 3, 4, 5, 6, 7, 8] (by decide) rfl)) (fun hz25 => ?_)
   refine V2.y (i := 4) (Nx2.of [17] (by kernel_rfl) rfl hz25) rfl rfl rfl (Y.loadP (i := 0) ag25 rfl rfl rfl) ?_
   refine V2.y (i := 5) (Nx2.of [] (by kernel_rfl) rfl hz24) rfl rfl rfl (Y.move rfl) ?_
   refine V2.y (i := 6) (Nx2.of [] (by kernel_rfl) rfl hz24) rfl rfl rfl (Y.move rfl) ?_
   refine V2.apNil (i := 7) (Nx2.of [] (by kernel_rfl) rfl hz24) rfl rfl rfl eu9 ?_
   refine V2.y (i := 8) (Nx2.of [] (by kernel_rfl) rfl hz24) rfl rfl rfl (Y.fieldP fd46_0 rfl) ?_
   refine V2.y (i := 9) (Nx2.of [] (by kernel_rfl) rfl hz24) rfl rfl rfl (Y.loadP (i := 3) ag25 rfl rfl rfl) ?_
   refine V2.y (i := 10) (Nx2.of [] (by kernel_rfl) rfl hz24) rfl rfl rfl (Y.move rfl) ?_
   refine V2.m (i := 11) (V' := fun _ => el (gv (q7 x2.toNat) 0) (x10.toNat * 1)) h (Nx2.of [] (by kernel_rfl) rfl hz24) rfl rfl rfl (Y.indexM (g := I) (l := u9.keys_) Try.underlying25 sz3 rfl rfl (fun w hw => As.at_ (hw.get (i := 4) rfl))) (fun x26 ex26 h => ?_)
   refine V2.y (i := 12) (Nx2.of [] (by kernel_rfl) rfl hz24) rfl rfl rfl (Y.loadE1 (u := .int .i64 x26) ag3 rfl (fun w hw => As.at_ (hw.get (i := 4) rfl)) (idx_map ex26)) ?_
   refine V2.eff (i := 13) (by kernel_rfl) rfl ?_
   refine L.litOne rfl Try.underlying25 eL3 rfl rfl ?_
   intro b27
   refine L.nil (E.toV2 (stC [[14, 17], [17]] [Cls w F [.sl (sv b27 1) 3 1 (([x26]).map I), .obj (gP46 a0.toNat) [(gv (q7 a0.toNat) 0), (gv (q7 a0.toNat) 1), (gv (q7 a0.toNat) 2)] 46, .sl (gv (q7 a0.toNat) 0) 3 1 (u11.keys_.map I), .sl (gv (q7 a0.toNat) 1) 9 1 (u11.texts_.map SR), .sl (gv (q7 a0.toNat) 2) 42 1 (u11.kids_.map (PR gP46)), ar46 gP46 q7 l4 (a0.toNat :: x2.toNat :: []), .obj (gP46 x2.toNat) [(gv (q7 x2.toNat) 0), (gv (q7 x2.toNat) 1), (gv (q7 x2.toNat) 2)] 46, .sl (gv (q7 x2.toNat) 0) 3 1 (u9.keys_.map I), .sl (gv (q7 x2.toNat) 1) 9 1 (u9.texts_.map SR), .sl (gv (q7 x2.toNat) 2) 42 1 (u9.kids_.map (PR gP46))], Cls w F [.sl (sv b27 1) 3 1 (([x26]).map I), .obj (gP46 a0.toNat) [(gv (q7 a0.toNat) 0), (gv (q7 a0.toNat) 1), (gv (q7 a0.toNat) 2)] 46, .sl (gv (q7 a0.toNat) 1) 9 1 (u11.texts_.map SR), .sl (gv (q7 a0.toNat) 2) 42 1 (u11.kids_.map (PR gP46)), ar46 gP46 q7 l4 (a0.toNat :: x2.toNat :: []), .obj (gP46 x2.toNat) [(gv (q7 x2.toNat) 0), (gv (q7 x2.toNat) 1), (gv (q7 x2.toNat) 2)] 46, .sl (gv (q7 x2.toNat) 0) 3 1 (u9.keys_.map I), .sl (gv (q7 x2.toNat) 1) 9 1 (u9.texts_.map SR), .sl (gv (q7 x2.toNat) 2) 42 1 (u9.kids_.map (PR gP46))]] (Cls w F [.sl (sv b27 1) 3 1 (([x26]).map I), .sl (gv (q7 a0.toNat) 1) 9 1 (u11.texts_.map SR), .sl (gv (q7 a0.toNat) 2) 42 1 (u11.kids_.map (PR gP46)), ar46 gP46 q7 l4 (a0.toNat :: x2.toNat :: []), .obj (gP46 x2.toNat) [(gv (q7 x2.toNat) 0), (gv (q7 x2.toNat) 1), (gv (q7 x2.toNat) 2)] 46, .sl (gv (q7 x2.toNat) 0) 3 1 (u9.keys_.map I), .sl (gv (q7 x2.toNat) 1) 9 1 (u9.texts_.map SR), .sl (gv (q7 x2.toNat) 2) 42 1 (u9.kids_.map (PR gP46))])) 13 (by kernel_rfl) (Sc.stay (fun _ hw => hw.sel [1, 2, 3, 4, 5, 6, 7, 8, 9] (by decide) rfl) (Sc.stay (fun _ hw => hw.sel [1, 2, 3, 4, 5, 6, 7, 8] (by decide) rfl) (Sc.stayD (fun _ hw => hw.sel [1, 2, 3, 4, 5, 6, 7] (by decide) rfl)))) (Sc.now (by kernel_rfl) (fun _ hw => hw)) ?_)
   refine V2.eff (i := 14) (by kernel_rfl) rfl ?_
   refine L.insRD (i := 2) (j := 0) (l := u11.keys_) (x1 := x26) (a := a1) h wInsR10 (fun _ => rfl) rfl en10 rfl rfl rfl rfl rfl (by decide) ?_
   intro v29 l28 el28 h
   refine L.nil (E.toV2 (stC [[17]] [Cls w F [.sl (sv b27 1) 3 1 (([x26]).map I), .obj (gP46 a0.toNat) [(gv (q7 a0.toNat) 0), (gv (q7 a0.toNat) 1), (gv (q7 a0.toNat) 2)] 46, .sl v29 3 1 (l28.map I), .sl (gv (q7 a0.toNat) 1) 9 1 (u11.texts_.map SR), .sl (gv (q7 a0.toNat) 2) 42 1 (u11.kids_.map (PR gP46)), ar46 gP46 q7 l4 (a0.toNat :: x2.toNat :: []), .obj (gP46 x2.toNat) [(gv (q7 x2.toNat) 0), (gv (q7 x2.toNat) 1), (gv (q7 x2.toNat) 2)] 46, .sl (gv (q7 x2.toNat) 0) 3 1 (u9.keys_.map I), .sl (gv (q7 x2.toNat) 1) 9 1 (u9.texts_.map SR), .sl (gv (q7 x2.toNat) 2) 42 1 (u9.kids_.map (PR gP46))]] (Cls w F [.sl (sv b27 1) 3 1 (([x26]).map I), .sl v29 3 1 (l28.map I), .sl (gv (q7 a0.toNat) 1) 9 1 (u11.texts_.map SR), .sl (gv (q7 a0.toNat) 2) 42 1 (u11.kids_.map (PR gP46)), ar46 gP46 q7 l4 (a0.toNat :: x2.toNat :: []), .obj (gP46 x2.toNat) [(gv (q7 x2.toNat) 0), (gv (q7 x2.toNat) 1), (gv (q7 x2.toNat) 2)] 46, .sl (gv (q7 x2.toNat) 0) 3 1 (u9.keys_.map I), .sl (gv (q7 x2.toNat) 1) 9 1 (u9.texts_.map SR), .sl (gv (q7 x2.toNat) 2) 42 1 (u9.kids_.map (PR gP46))])) 14 (by kernel_rfl) (Sc.past rfl (Sc.stay (fun _ hw => hw.sel [0, 1, 3, 4, 5, 6, 7, 8, 9] (by decide) rfl) (Sc.stayD (fun _ hw => hw.sel [0, 2, 3, 4, 5, 6, 7, 8] (by decide) rfl)))) (Sc.now (by kernel_rfl) (fun _ hw => hw)) ?_)
   refine V2.zz [] (Zc.on' (Zc.fin (fun _ hw => hw)) (fun _ hw => hw.sel [0, 2, 3, 4, 5, 6, 7, 8, 9] (by decide) rfl)) (fun hz30 => ?_)
   refine V2.apNil (i := 15) (Nx2.of [] (by kernel_rfl) rfl hz30) rfl rfl rfl eu11 ?_
   refine V2.y (i := 16) (Nx2.of [] (by kernel_rfl) rfl hz30) rfl rfl rfl (Y.fieldP fd46_0 rfl) ?_
   refine V2.eff (i := 17) (by kernel_rfl) rfl ?_
   refine L.storeV (i := 1) sz25 rfl rfl (fun _ hw => (As.at_ (hw.get (i := 2) rfl)).one) rfl (Nat.le_of_ble_eq_true rfl) ?_
   refine L.nil (E.toV2 (stC [] [] (Cls w F [.sl (sv b27 1) 3 1 (([x26]).map I), .sl v29 3 1 (l28.map I), .sl (gv (q7 a0.toNat) 1) 9 1 (u11.texts_.map SR), .sl (gv (q7 a0.toNat) 2) 42 1 (u11.kids_.map (PR gP46)), ar46 gP46 q7 l4 (a0.toNat :: x2.toNat :: []), .obj (gP46 x2.toNat) [(gv (q7 x2.toNat) 0), (gv (q7 x2.toNat) 1), (gv (q7 x2.toNat) 2)] 46, .sl (gv (q7 x2.toNat) 0) 3 1 (u9.keys_.map I), .sl (gv (q7 x2.toNat) 1) 9 1 (u9.texts_.map SR), .sl (gv (q7 x2.toNat) 2) 42 1 (u9.kids_.map (PR gP46))])) 17 (by kernel_rfl) (Sc.past rfl (Sc.stayD (fun _ hw => hw))) (Sc.atD (fun _ hw => hw.sel [0, 2, 3, 4, 5, 6, 7, 8, 9] (by decide) rfl)) ?_)
   refine V2.done (by kernel_rfl) ?_
   refine E.thenN (W.seq (W.drawn2 (k := 18) (stC [[14, 17], [17]] [Cls w F [.sl (sv b27 1) 3 1 (([x26]).map I), .obj (gP46 a0.toNat) [v29, (gv (q7 a0.toNat) 1), (gv (q7 a0.toNat) 2)] 46, .sl v29 3 1 (l28.map I), .sl (gv (q7 a0.toNat) 1) 9 1 (u11.texts_.map SR), .sl (gv (q7 a0.toNat) 2) 42 1 (u11.kids_.map (PR gP46)), ar46 gP46 q7 l4 (a0.toNat :: x2.toNat :: []), .obj (gP46 x2.toNat) [(gv (q7 x2.toNat) 0), (gv (q7 x2.toNat) 1), (gv (q7 x2.toNat) 2)] 46, .sl (gv (q7 x2.toNat) 0) 3 1 (u9.keys_.map I), .sl (gv (q7 x2.toNat) 1) 9 1 (u9.texts_.map SR), .sl (gv (q7 x2.toNat) 2) 42 1 (u9.kids_.map (PR gP46))], Cls w F [.sl (sv b27 1) 3 1 (([x26]).map I), .obj (gP46 a0.toNat) [v29, (gv (q7 a0.toNat) 1), (gv (q7 a0.toNat) 2)] 46, .sl v29 3 1 (l28.map I), .sl (gv (q7 a0.toNat) 2) 42 1 (u11.kids_.map (PR gP46)), ar46 gP46 q7 l4 (a0.toNat :: x2.toNat :: []), .obj (gP46 x2.toNat) [(gv (q7 x2.toNat) 0), (gv (q7 x2.toNat) 1), (gv (q7 x2.toNat) 2)] 46, .sl (gv (q7 x2.toNat) 0) 3 1 (u9.keys_.map I), .sl (gv (q7 x2.toNat) 1) 9 1 (u9.texts_.map SR), .sl (gv (q7 x2.toNat) 2) 42 1 (u9.kids_.map (PR gP46))]] (Cls w F [.sl (sv b27 1) 3 1 (([x26]).map I), .sl v29 3 1 (l28.map I), .sl (gv (q7 a0.toNat) 2) 42 1 (u11.kids_.map (PR gP46)), ar46 gP46 q7 l4 (a0.toNat :: x2.toNat :: []), .obj (gP46 x2.toNat) [(gv (q7 x2.toNat) 0), (gv (q7 x2.toNat) 1), (gv (q7 x2.toNat) 2)] 46, .sl (gv (q7 x2.toNat) 0) 3 1 (u9.keys_.map I), .sl (gv (q7 x2.toNat) 1) 9 1 (u9.texts_.map SR), .sl (gv (q7 x2.toNat) 2) 42 1 (u9.kids_.map (PR gP46))])) rfl mixed (fun _ hw => hw.drew) (Sc.now (by kernel_rfl) (fun _ hw => hw)) ?_))
   refine V2.zz [] (Zc.on' (Zc.on' (Zc.fin (fun _ hw => hw)) (fun _ hw => hw.sel [0, 2, 3, 4, 5, 6, 7, 8] (by decide) rfl)) (fun _ hw => hw.sel [0, 2, 4, 5, 6, 7, 8, 9] (by decide) rfl)) (fun hz42 => ?_)
   refine V2.y (i := 0) (Nx2.of [] (by kernel_rfl) rfl hz42) rfl rfl rfl (Y.move rfl) ?_
   refine V2.y (i := 1) (Nx2.of [] (by kernel_rfl) rfl hz42) rfl rfl rfl (Y.move rfl) ?_
   refine V2.apNil (i := 2) (Nx2.of [] (by kernel_rfl) rfl hz42) rfl rfl rfl eu11 ?_
   refine V2.y (i := 3) (Nx2.of [] (by kernel_rfl) rfl hz42) rfl rfl rfl (Y.fieldP fd46_1 rfl) ?_
   refine V2.zz [17] (Zc.on' (Zc.at1 (fun _ hw => hw)) (fun _ hw => hw.sel [0, 1, 2, 4, 5, 6, 7, 8, 9] (by decide) rfl)) (fun hz43 => ?_)
   refine V2.y (i := 4) (Nx2.of [17] (by kernel_rfl) rfl hz43) rfl rfl rfl (Y.loadP (i := 1) ag43 rfl rfl rfl) ?_
   refine V2.y (i := 5) (Nx2.of [] (by kernel_rfl) rfl hz42) rfl rfl rfl (Y.move rfl) ?_
   refine V2.y (i := 6) (Nx2.of [] (by kernel_rfl) rfl hz42) rfl rfl rfl (Y.move rfl) ?_
   refine V2.apNil (i := 7) (Nx2.of [] (by kernel_rfl) rfl hz42) rfl rfl rfl eu9 ?_
   refine V2.y (i := 8) (Nx2.of [] (by kernel_rfl) rfl hz42) rfl rfl rfl (Y.fieldP fd46_1 rfl) ?_
   refine V2.y (i := 9) (Nx2.of [] (by kernel_rfl) rfl hz42) rfl rfl rfl (Y.loadP (i := 4) ag43 rfl rfl rfl) ?_
   refine V2.y (i := 10) (Nx2.of [] (by kernel_rfl) rfl hz42) rfl rfl rfl (Y.move rfl) ?_
   refine V2.m (i := 11) (V' := fun _ => el (gv (q7 x2.toNat) 1) (x10.toNat * 1)) h (Nx2.of [] (by kernel_rfl) rfl hz42) rfl rfl rfl (Y.indexM (g := SR) (l := u9.texts_) Try.underlying43 sz9 rfl rfl (fun w hw => As.at_ (hw.get (i := 6) rfl))) (fun x44 ex44 h => ?_)
   refine V2.y (i := 12) (Nx2.of [] (by kernel_rfl) rfl hz42) rfl rfl rfl (Y.loadE1 (u := st x44) ag9 rfl (fun w hw => As.at_ (hw.get (i := 6) rfl)) (idx_map ex44)) ?_
   refine V2.eff (i := 13) (by kernel_rfl) rfl ?_
   refine L.litOne rfl Try.underlying43 eL9 rfl rfl ?_
   intro b45
   refine L.nil (E.toV2 (stC [[14, 17], [17]] [Cls w F [.sl (sv b45 1) 9 1 (([x44]).map SR), .sl (sv b27 1) 3 1 (([x26]).map I), .obj (gP46 a0.toNat) [v29, (gv (q7 a0.toNat) 1), (gv (q7 a0.toNat) 2)] 46, .sl v29 3 1 (l28.map I), .sl (gv (q7 a0.toNat) 1) 9 1 (u11.texts_.map SR), .sl (gv (q7 a0.toNat) 2) 42 1 (u11.kids_.map (PR gP46)), ar46 gP46 q7 l4 (a0.toNat :: x2.toNat :: []), .obj (gP46 x2.toNat) [(gv (q7 x2.toNat) 0), (gv (q7 x2.toNat) 1), (gv (q7 x2.toNat) 2)] 46, .sl (gv (q7 x2.toNat) 0) 3 1 (u9.keys_.map I), .sl (gv (q7 x2.toNat) 1) 9 1 (u9.texts_.map SR), .sl (gv (q7 x2.toNat) 2) 42 1 (u9.kids_.map (PR gP46))], Cls w F [.sl (sv b45 1) 9 1 (([x44]).map SR), .sl (sv b27 1) 3 1 (([x26]).map I), .obj (gP46 a0.toNat) [v29, (gv (q7 a0.toNat) 1), (gv (q7 a0.toNat) 2)] 46, .sl v29 3 1 (l28.map I), .sl (gv (q7 a0.toNat) 2) 42 1 (u11.kids_.map (PR gP46)), ar46 gP46 q7 l4 (a0.toNat :: x2.toNat :: []), .obj (gP46 x2.toNat) [(gv (q7 x2.toNat) 0), (gv (q7 x2.toNat) 1), (gv (q7 x2.toNat) 2)] 46, .sl (gv (q7 x2.toNat) 0) 3 1 (u9.keys_.map I), .sl (gv (q7 x2.toNat) 1) 9 1 (u9.texts_.map SR), .sl (gv (q7 x2.toNat) 2) 42 1 (u9.kids_.map (PR gP46))]] (Cls w F [.sl (sv b45 1) 9 1 (([x44]).map SR), .sl (sv b27 1) 3 1 (([x26]).map I), .sl v29 3 1 (l28.map I), .sl (gv (q7 a0.toNat) 2) 42 1 (u11.kids_.map (PR gP46)), ar46 gP46 q7 l4 (a0.toNat :: x2.toNat :: []), .obj (gP46 x2.toNat) [(gv (q7 x2.toNat) 0), (gv (q7 x2.toNat) 1), (gv (q7 x2.toNat) 2)] 46, .sl (gv (q7 x2.toNat) 0) 3 1 (u9.keys_.map I), .sl (gv (q7 x2.toNat) 1) 9 1 (u9.texts_.map SR), .sl (gv (q7 x2.toNat) 2) 42 1 (u9.kids_.map (PR gP46))])) 13 (by kernel_rfl) (Sc.stay (fun _ hw => hw.sel [1, 2, 3, 4, 5, 6, 7, 8, 9, 10] (by decide) rfl) (Sc.stay (fun _ hw => hw.sel [1, 2, 3, 4, 5, 6, 7, 8, 9] (by decide) rfl) (Sc.stayD (fun _ hw => hw.sel [1, 2, 3, 4, 5, 6, 7, 8] (by decide) rfl)))) (Sc.now (by kernel_rfl) (fun _ hw => hw)) ?_)
   refine V2.eff (i := 14) (by kernel_rfl) rfl ?_
   refine L.insRD (i := 4) (j := 0) (l := u11.texts_) (x1 := x44) (a := a1) h wInsR28 (fun _ => rfl) rfl en28 rfl rfl rfl rfl rfl (by decide) ?_
   intro v47 l46 el46 h
   refine L.nil (E.toV2 (stC [[17]] [Cls w F [.sl (sv b45 1) 9 1 (([x44]).map SR), .sl (sv b27 1) 3 1 (([x26]).map I), .obj (gP46 a0.toNat) [v29, (gv (q7 a0.toNat) 1), (gv (q7 a0.toNat) 2)] 46, .sl v29 3 1 (l28.map I), .sl v47 9 1 (l46.map SR), .sl (gv (q7 a0.toNat) 2) 42 1 (u11.kids_.map (PR gP46)), ar46 gP46 q7 l4 (a0.toNat :: x2.toNat :: []), .obj (gP46 x2.toNat) [(gv (q7 x2.toNat) 0), (gv (q7 x2.toNat) 1), (gv (q7 x2.toNat) 2)] 46, .sl (gv (q7 x2.toNat) 0) 3 1 (u9.keys_.map I), .sl (gv (q7 x2.toNat) 1) 9 1 (u9.texts_.map SR), .sl (gv (q7 x2.toNat) 2) 42 1 (u9.kids_.map (PR gP46))]] (Cls w F [.sl (sv b45 1) 9 1 (([x44]).map SR), .sl (sv b27 1) 3 1 (([x26]).map I), .sl v29 3 1 (l28.map I), .sl v47 9 1 (l46.map SR), .sl (gv (q7 a0.toNat) 2) 42 1 (u11.kids_.map (PR gP46)), ar46 gP46 q7 l4 (a0.toNat :: x2.toNat :: []), .obj (gP46 x2.toNat) [(gv (q7 x2.toNat) 0), (gv (q7 x2.toNat) 1), (gv (q7 x2.toNat) 2)] 46, .sl (gv (q7 x2.toNat) 0) 3 1 (u9.keys_.map I), .sl (gv (q7 x2.toNat) 1) 9 1 (u9.texts_.map SR), .sl (gv (q7 x2.toNat) 2) 42 1 (u9.kids_.map (PR gP46))])) 14 (by kernel_rfl) (Sc.past rfl (Sc.stay (fun _ hw => hw.sel [0, 1, 2, 3, 5, 6, 7, 8, 9, 10] (by decide) rfl) (Sc.stayD (fun _ hw => hw.sel [0, 1, 2, 4, 5, 6, 7, 8, 9] (by decide) rfl)))) (Sc.now (by kernel_rfl) (fun _ hw => hw)) ?_)
   refine V2.zz [] (Zc.on' (Zc.fin (fun _ hw => hw)) (fun _ hw => hw.sel [0, 1, 3, 4, 5, 6, 7, 8, 9, 10] (by decide) rfl)) (fun hz48 => ?_)
   refine V2.apNil (i := 15) (Nx2.of [] (by kernel_rfl) rfl hz48) rfl rfl rfl eu11 ?_
   refine V2.y (i := 16) (Nx2.of [] (by kernel_rfl) rfl hz48) rfl rfl rfl (Y.fieldP fd46_1 rfl) ?_
   refine V2.eff (i := 17) (by kernel_rfl) rfl ?_
   refine L.storeV (i := 2) sz43 rfl rfl (fun _ hw => (As.at_ (hw.get (i := 4) rfl)).one) rfl (Nat.le_of_ble_eq_true rfl) ?_
   refine L.nil (E.toV2 (stC [] [] (Cls w F [.sl (sv b45 1) 9 1 (([x44]).map SR), .sl (sv b27 1) 3 1 (([x26]).map I), .sl v29 3 1 (l28.map I), .sl v47 9 1 (l46.map SR), .sl (gv (q7 a0.toNat) 2) 42 1 (u11.kids_.map (PR gP46)), ar46 gP46 q7 l4 (a0.toNat :: x2.toNat :: []), .obj (gP46 x2.toNat) [(gv (q7 x2.toNat) 0), (gv (q7 x2.toNat) 1), (gv (q7 x2.toNat) 2)] 46, .sl (gv (q7 x2.toNat) 0) 3 1 (u9.keys_.map I), .sl (gv (q7 x2.toNat) 1) 9 1 (u9.texts_.map SR), .sl (gv (q7 x2.toNat) 2) 42 1 (u9.kids_.map (PR gP46))])) 17 (by kernel_rfl) (Sc.past rfl (Sc.stayD (fun _ hw => hw))) (Sc.atD (fun _ hw => hw.sel [0, 1, 3, 4, 5, 6, 7, 8, 9, 10] (by decide) rfl)) ?_)
   refine V2.done (by kernel_rfl) ?_
   refine E.thenN (W.seq (W.region (L.y rfl (Y.move rfl) ?_)))
   refine L.y rfl (Y.move rfl) ?_
   refine L.y rfl (Y.apNil rfl eu11) ?_
   refine L.y rfl (Y.fieldP fd46_2 rfl) ?_
   refine L.y rfl (Y.loadP (i := 2) ag44 rfl rfl rfl) ?_
   refine L.y rfl (Y.move rfl) ?_
   refine L.m (V := fun x49 => .int .i64 x49) h rfl (Y.addM rfl rfl) (fun x49 ex49 h => ?_)
   refine L.y rfl (Y.move rfl) ?_
   refine L.litOne rfl Try.underlying44 eL42 rfl (VP_cells _ _) ?_
   intro b50
   refine L.insRD (i := 6) (j := 0) (l := u11.kids_) (x1 := x5) (a := x49) h wInsR30 (fun _ => rfl) rfl en30 rfl rfl rfl rfl rfl (by decide) ?_
   intro v52 l51 el51 h
   refine L.y rfl (Y.apNil rfl eu11) ?_
   refine L.y rfl (Y.fieldP fd46_2 rfl) ?_
   refine L.storeV (i := 3) sz44 rfl rfl (fun _ hw => (As.at_ (hw.get (i := 6) rfl)).one) rfl (Nat.le_of_ble_eq_true rfl) ?_
   refine L.nil (E.thenN (W.drawn2 (k := 20) (stC [[16, 19], [19]] [Cls w F [.sl (sv b50 1) 42 1 (([x5]).map (PR gP46)), .sl (sv b45 1) 9 1 (([x44]).map SR), .sl (sv b27 1) 3 1 (([x26]).map I), .obj (gP46 a0.toNat) [v29, v47, v52] 46, .sl v29 3 1 (l28.map I), .sl v47 9 1 (l46.map SR), .sl v52 42 1 (l51.map (PR gP46)), ar46 gP46 q7 l4 (a0.toNat :: x2.toNat :: []), .obj (gP46 x2.toNat) [(gv (q7 x2.toNat) 0), (gv (q7 x2.toNat) 1), (gv (q7 x2.toNat) 2)] 46, .sl (gv (q7 x2.toNat) 0) 3 1 (u9.keys_.map I), .sl (gv (q7 x2.toNat) 1) 9 1 (u9.texts_.map SR), .sl (gv (q7 x2.toNat) 2) 42 1 (u9.kids_.map (PR gP46))], Cls w F [.sl (sv b50 1) 42 1 (([x5]).map (PR gP46)), .sl (sv b45 1) 9 1 (([x44]).map SR), .sl (sv b27 1) 3 1 (([x26]).map I), .obj (gP46 a0.toNat) [v29, v47, v52] 46, .sl v29 3 1 (l28.map I), .sl v47 9 1 (l46.map SR), .sl v52 42 1 (l51.map (PR gP46)), ar46 gP46 q7 l4 (a0.toNat :: x2.toNat :: []), .sl (gv (q7 x2.toNat) 1) 9 1 (u9.texts_.map SR), .sl (gv (q7 x2.toNat) 2) 42 1 (u9.kids_.map (PR gP46))]] (Cls w F [.sl (sv b50 1) 42 1 (([x5]).map (PR gP46)), .sl (sv b45 1) 9 1 (([x44]).map SR), .sl (sv b27 1) 3 1 (([x26]).map I), .obj (gP46 a0.toNat) [v29, v47, v52] 46, .sl v29 3 1 (l28.map I), .sl v47 9 1 (l46.map SR), .sl v52 42 1 (l51.map (PR gP46)), ar46 gP46 q7 l4 (a0.toNat :: x2.toNat :: []), .sl (gv (q7 x2.toNat) 2) 42 1 (u9.kids_.map (PR gP46))])) rfl mixed (fun _ hw => hw.drew) (Sc.now (by kernel_rfl) (fun _ hw => hw)) ?_))
   refine V2.zz [] (Zc.on' (Zc.on' (Zc.fin (fun _ hw => hw)) (fun _ hw => hw.sel [0, 1, 2, 3, 4, 5, 6, 7, 9] (by decide) rfl)) (fun _ hw => hw.sel [0, 1, 2, 3, 4, 5, 6, 7, 11] (by decide) rfl)) (fun hz65 => ?_)
   refine V2.y (i := 0) (Nx2.of [] (by kernel_rfl) rfl hz65) rfl rfl rfl (Y.move rfl) ?_
   refine V2.y (i := 1) (Nx2.of [] (by kernel_rfl) rfl hz65) rfl rfl rfl (Y.move rfl) ?_
   refine V2.y (i := 2) (Nx2.of [] (by kernel_rfl) rfl hz65) rfl rfl rfl (Y.move rfl) ?_
   refine V2.apNil (i := 3) (Nx2.of [] (by kernel_rfl) rfl hz65) rfl rfl rfl eu9 ?_
   refine V2.y (i := 4) (Nx2.of [] (by kernel_rfl) rfl hz65) rfl rfl rfl (Y.fieldP fd46_0 rfl) ?_
   refine V2.zz [16, 19] (Zc.at1 (fun _ hw => hw)) (fun hz67 => ?_)
   refine V2.y (i := 5) (Nx2.of [16, 19] (by kernel_rfl) rfl hz67) rfl rfl rfl (Y.loadP (i := 8) ag25 rfl rfl rfl) ?_
   refine V2.y (i := 6) (Nx2.of [] (by kernel_rfl) rfl hz65) rfl rfl rfl (Y.move rfl) ?_
   refine V2.m (i := 7) (V' := fun _ => cutv (gv (q7 x2.toNat) 0) x10.toNat) h (Nx2.of [16, 19] (by kernel_rfl) rfl hz67) rfl rfl rfl (Y.cutM (g := I) Try.underlying25 sz3 rfl rfl (fun w hw => As.at_ (hw.get (i := 9) rfl))) (fun l69 el69 h => ?_)
   refine V2.y (i := 8) (Nx2.of [] (by kernel_rfl) rfl hz65) rfl rfl rfl (Y.move rfl) ?_
   refine V2.apNil (i := 9) (Nx2.of [] (by kernel_rfl) rfl hz65) rfl rfl rfl eu9 ?_
   refine V2.y (i := 10) (Nx2.of [] (by kernel_rfl) rfl hz65) rfl rfl rfl (Y.fieldP fd46_1 rfl) ?_
   refine V2.y (i := 11) (Nx2.of [16, 19] (by kernel_rfl) rfl hz67) rfl rfl rfl (Y.loadP (i := 8) ag43 rfl rfl rfl) ?_
   refine V2.y (i := 12) (Nx2.of [] (by kernel_rfl) rfl hz65) rfl rfl rfl (Y.move rfl) ?_
   refine V2.zz [19] (Zc.on' (Zc.at1 (fun _ hw => hw)) (fun _ hw => hw.sel [0, 1, 2, 3, 4, 5, 6, 7, 10, 11] (by decide) rfl)) (fun hz71 => ?_)
   refine V2.m (i := 13) (V' := fun _ => cutv (gv (q7 x2.toNat) 1) x10.toNat) h (Nx2.of [19] (by kernel_rfl) rfl hz71) rfl rfl rfl (Y.cutM (g := SR) Try.underlying43 sz9 rfl rfl (fun w hw => As.at_ (hw.get (i := 8) rfl))) (fun l72 el72 h => ?_)
   refine V2.apNil (i := 14) (Nx2.of [] (by kernel_rfl) rfl hz65) rfl rfl rfl eu9 ?_
   refine V2.y (i := 15) (Nx2.of [] (by kernel_rfl) rfl hz65) rfl rfl rfl (Y.fieldP fd46_0 rfl) ?_
   refine V2.eff (i := 16) (by kernel_rfl) rfl ?_
   refine L.cutT (i := 9) (g := I) el69 rfl ?_
   refine L.storeV (i := 8) sz25 rfl rfl (fun _ hw => (As.at_ (hw.get (i := 9) rfl)).one) rfl (Nat.le_of_ble_eq_true rfl) ?_
   refine L.nil (E.toV2 (stC [[19]] [Cls w F [.sl (sv b50 1) 42 1 (([x5]).map (PR gP46)), .sl (sv b45 1) 9 1 (([x44]).map SR), .sl (sv b27 1) 3 1 (([x26]).map I), .obj (gP46 a0.toNat) [v29, v47, v52] 46, .sl v29 3 1 (l28.map I), .sl v47 9 1 (l46.map SR), .sl v52 42 1 (l51.map (PR gP46)), ar46 gP46 q7 l4 (a0.toNat :: x2.toNat :: []), .sl (cutv (gv (q7 x2.toNat) 0) x10.toNat) 3 1 (l69.map I), .sl (gv (q7 x2.toNat) 1) 9 1 (u9.texts_.map SR), .sl (gv (q7 x2.toNat) 2) 42 1 (u9.kids_.map (PR gP46))]] (Cls w F [.sl (sv b50 1) 42 1 (([x5]).map (PR gP46)), .sl (sv b45 1) 9 1 (([x44]).map SR), .sl (sv b27 1) 3 1 (([x26]).map I), .obj (gP46 a0.toNat) [v29, v47, v52] 46, .sl v29 3 1 (l28.map I), .sl v47 9 1 (l46.map SR), .sl v52 42 1 (l51.map (PR gP46)), ar46 gP46 q7 l4 (a0.toNat :: x2.toNat :: []), .sl (cutv (gv (q7 x2.toNat) 0) x10.toNat) 3 1 (l69.map I), .sl (gv (q7 x2.toNat) 2) 42 1 (u9.kids_.map (PR gP46))])) 16 (by kernel_rfl) (Sc.past rfl (Sc.stay (fun _ hw => hw.sel [0, 1, 2, 3, 4, 5, 6, 7, 9, 10] (by decide) rfl) (Sc.stayD (fun _ hw => hw.sel [0, 1, 2, 3, 4, 5, 6, 7, 9] (by decide) rfl)))) (Sc.now (by kernel_rfl) (fun _ hw => hw.sel [0, 1, 2, 3, 4, 5, 6, 7, 9, 10, 11] (by decide) rfl)) ?_)
   refine V2.zz [] (Zc.on' (Zc.fin (fun _ hw => hw)) (fun _ hw => hw.sel [0, 1, 2, 3, 4, 5, 6, 7, 8, 10] (by decide) rfl)) (fun hz73 => ?_)
   refine V2.apNil (i := 17) (Nx2.of [] (by kernel_rfl) rfl hz73) rfl rfl rfl eu9 ?_
   refine V2.y (i := 18) (Nx2.of [] (by kernel_rfl) rfl hz73) rfl rfl rfl (Y.fieldP fd46_1 rfl) ?_
   refine V2.eff (i := 19) (by kernel_rfl) rfl ?_
   refine L.cutT (i := 10) (g := SR) el72 rfl ?_
   refine L.storeV (i := 8) sz43 rfl rfl (fun _ hw => (As.at_ (hw.get (i := 10) rfl)).one) rfl (Nat.le_of_ble_eq_true rfl) ?_
   refine L.nil (E.toV2 (stC [] [] (Cls w F [.sl (sv b50 1) 42 1 (([x5]).map (PR gP46)), .sl (sv b45 1) 9 1 (([x44]).map SR), .sl (sv b27 1) 3 1 (([x26]).map I), .obj (gP46 a0.toNat) [v29, v47, v52] 46, .sl v29 3 1 (l28.map I), .sl v47 9 1 (l46.map SR), .sl v52 42 1 (l51.map (PR gP46)), ar46 gP46 q7 l4 (a0.toNat :: x2.toNat :: []), .sl (cutv (gv (q7 x2.toNat) 0) x10.toNat) 3 1 (l69.map I), .sl (cutv (gv (q7 x2.toNat) 1) x10.toNat) 9 1 (l72.map SR), .sl (gv (q7 x2.toNat) 2) 42 1 (u9.kids_.map (PR gP46))])) 19 (by kernel_rfl) (Sc.past rfl (Sc.stayD (fun _ hw => hw.sel [0, 1, 2, 3, 4, 5, 6, 7, 8, 10] (by decide) rfl))) (Sc.atD (fun _ hw => hw.sel [0, 1, 2, 3, 4, 5, 6, 7, 9, 10, 11] (by decide) rfl)) ?_)
   refine V2.done (by kernel_rfl) ?_
   obtain ⟨l74, el74, h⟩ := bind1S h
   refine E.arClose (row := Tnode.rowA gP46) (sub := Tnode.subA gP46) (e := 46) (g := gP46) (gh := q7) (vs' := [v29, v47, v52]) (hs := (x2.toNat :: [])) (hs' := (a0.toNat :: x2.toNat :: [])) (m' := [.sl (sv b50 1) 42 1 (([x5]).map (PR gP46)), .sl (sv b45 1) 9 1 (([x44]).map SR), .sl (sv b27 1) 3 1 (([x26]).map I), .obj (gP46 x2.toNat) [(cutv (gv (q7 x2.toNat) 0) x10.toNat), (cutv (gv (q7 x2.toNat) 1) x10.toNat), (gv (q7 x2.toNat) 2)] 46, .sl (cutv (gv (q7 x2.toNat) 0) x10.toNat) 3 1 (l69.map I), .sl (cutv (gv (q7 x2.toNat) 1) x10.toNat) 9 1 (l72.map SR), .sl (gv (q7 x2.toNat) 2) 42 1 (u9.kids_.map (PR gP46))]) [3, 4, 5, 6, 7, 0, 1, 2, 8, 9, 10, 11] el74 (by decide) rfl (fun _ => List.mem_cons) (nin1 (ck_some c12) eu11 eu9 List.not_mem_nil) ?_
   intro q75
   have e76 := idx_upd_ne el74 (ck_some c12).symm eu9
   replace hGr46 := hGr46.upd el74
   refine E.to (D := Cls w F [ar46 gP46 q75 l74 (x2.toNat :: []), .sl (sv b50 1) 42 1 (([x5]).map (PR gP46)), .sl (sv b45 1) 9 1 (([x44]).map SR), .sl (sv b27 1) 3 1 (([x26]).map I), .obj (gP46 x2.toNat) [(cutv (gv (q7 x2.toNat) 0) x10.toNat), (cutv (gv (q7 x2.toNat) 1) x10.toNat), (gv (q7 x2.toNat) 2)] 46, .sl (cutv (gv (q7 x2.toNat) 0) x10.toNat) 3 1 (l69.map I), .sl (cutv (gv (q7 x2.toNat) 1) x10.toNat) 9 1 (l72.map SR), .sl (gv (q7 x2.toNat) 2) 42 1 (u9.kids_.map (PR gP46))]) (fun _ hw => hw) ?_
   obtain ⟨l77, el77, h⟩ := bind1S h
   refine E.arClose (row := Tnode.rowA gP46) (sub := Tnode.subA gP46) (e := 46) (g := gP46) (gh := q75) (vs' := [(cutv (gv (q7 x2.toNat) 0) x10.toNat), (cutv (gv (q7 x2.toNat) 1) x10.toNat), (gv (q7 x2.toNat) 2)]) (hs := []) (hs' := (x2.toNat :: [])) (m' := [.sl (sv b50 1) 42 1 (([x5]).map (PR gP46)), .sl (sv b45 1) 9 1 (([x44]).map SR), .sl (sv b27 1) 3 1 (([x26]).map I)]) [4, 5, 6, 7, 0, 1, 2, 3] el77 (by decide) rfl (fun _ => List.mem_cons) List.not_mem_nil ?_
   intro q78
   replace hGr46 := hGr46.upd el77
   refine E.to (D := Cls w F [ar46 gP46 q78 l77 [], .sl (sv b50 1) 42 1 (([x5]).map (PR gP46)), .sl (sv b45 1) 9 1 (([x44]).map SR), .sl (sv b27 1) 3 1 (([x26]).map I)]) (fun _ hw => hw) ?_
   refine E.end0 rfl (fun w1 hw => ?_)
   obtain rfl := Option.some.inj h
   exact ⟨_, _, rfl, ⟨_, _, (hg46 ▸ hGr46), rfl, rfl⟩, hw.sel [0] (by decide) rfl⟩
set_option maxRecDepth 100000 in
set_option maxHeartbeats 8000000 in
theorem w17_tree_node_putR : ∀ (n : Nat) (a0 : Int) (a1 : Int) (a2 : (List UInt8)) (A46 : (List Tnode)) (gP46 : Nat → Nat) (qP46 : Nat → List Value) (w : World) (r : ((List Tnode) × Bool)) (h : m17_tree_node_putR n a0 a1 a2 A46 = some r) (F : List Nat) (hc0 : Cls w F [ar46 gP46 qP46 A46 []] w), DoesF Try.prog 17 [VP gP46 a0, .int .i64 a1, st a2] F w fun u m => ∃ G46 Q46, Gr gP46 A46.length G46 r.1.length ∧ u = .bool r.2 ∧ m = [ar46 G46 Q46 r.1 []] := by
  intro n
  induction n with
  | zero => intro a0 a1 a2 A46 gP46 qP46 w r h F hc0; rw [m17_tree_node_putR] at h; cases h
  | succ n ih =>
  intro a0 a1 a2 A46 gP46 qP46 w r h F hc0
  rw [m17_tree_node_putR] at h
  generalize m17_tree_node_putR n = rec at h ih
  rw [m17_tree_node_putB] at h
  obtain ⟨g46, hg46⟩ : ∃ g, g = gP46 := ⟨_, rfl⟩
  have hGr46 : Gr g46 A46.length gP46 A46.length := hg46 ▸ Gr.refl _ _
  refine body (n := 68) Try.func17 rfl rfl rfl hc0 ?_
  refine W.seq (W.region (L.y rfl (Y.assign rfl) ?_))
  refine L.nil (E.thenN (W.seqJ (fun gs D => ∃ (gx1 : Int) (gb2 : Bool), gs = [(0, VP gP46 a0), (1, .int .i64 a1), (2, st a2), (7, .int .i64 gx1), (8, .bool gb2)] ∧ D = Cls w F [ar46 gP46 qP46 A46 []] ∧ m17_tree_node_put_K1 A46 a0 a2 a1 rec gx1 gb2 = some r) ?_ ?_))
  ·
   refine W.region (L.y rfl (Y.move rfl) ?_)
   refine L.y rfl (Y.move rfl) ?_
   obtain ⟨x28, b29, e30, h⟩ := bind2S h
   refine L.doesP (A := [ar46 gP46 qP46 A46 []]) (M := []) rfl en15 rfl (fun w' hw => w15_tree_node_find a0 a1 A46 gP46 qP46 w' _ e30 _ hw.lend) ?_
   rintro _ _ ⟨rfl, rfl⟩
   refine L.to (D := Cls w F [ar46 gP46 qP46 A46 []]) (fun _ hw => hw) ?_
   refine L.y rfl (Y.move rfl) ?_
   refine L.y rfl (Y.extract rfl rfl) ?_
   refine L.iteB h rfl (Y.extract rfl rfl) (fun c31 h => ?_) (fun c31 h => ?_)
   ·
    refine L.y rfl (Y.assign rfl) ?_
    refine L.y rfl (Y.assign rfl) ?_
    exact L.nil (E.joinJ ⟨x28, true, rfl, rfl, h⟩ ⟨rfl, rfl, rfl, rfl, rfl, trivial⟩ (fun _ hw => hw))
   ·
    refine L.y rfl (Y.assign rfl) ?_
    refine L.y rfl (Y.assign rfl) ?_
    exact L.nil (E.joinJ ⟨x28, false, rfl, rfl, h⟩ ⟨rfl, rfl, rfl, rfl, rfl, trivial⟩ (fun _ hw => hw))
  ·
   rintro _ _ ⟨gx1, gb2, rfl, rfl, h⟩
   rw [m17_tree_node_put_K1] at h
   rcases gb2 with _ | _
   ·
    replace h := iteF h
    refine W.seqJ (fun gs D => gs = [(0, VP gP46 a0), (1, .int .i64 a1), (2, st a2), (7, .int .i64 gx1)] ∧ D = Cls w F [ar46 gP46 qP46 A46 []] ∧ m17_tree_node_put_K2 A46 a0 gx1 rec a1 a2 = some r) ?_ ?_
    ·
     refine W.block (W.seq (W.region (L.y rfl (Y.move rfl) ?_)))
     refine L.y rfl (Y.assign rfl) ?_
     refine L.nil (E.thenN (W.condF rfl ?_))
     refine W.seq (W.region (L.y rfl (Y.move rfl) ?_))
     obtain ⟨u13, eu13, h⟩ := bind1S h
     refine L.to (D := Cls w F [.obj (gP46 a0.toNat) [(gv (qP46 a0.toNat) 0), (gv (qP46 a0.toNat) 1), (gv (qP46 a0.toNat) 2)] 46, .sl (gv (qP46 a0.toNat) 0) 3 1 (u13.keys_.map I), .sl (gv (qP46 a0.toNat) 1) 9 1 (u13.texts_.map SR), .sl (gv (qP46 a0.toNat) 2) 42 1 (u13.kids_.map (PR gP46)), ar46 gP46 qP46 A46 (a0.toNat :: [])]) (fun _ hw => hw.arOpen (p := 0) rfl eu13 List.not_mem_nil) ?_
     refine L.y rfl (Y.apNil rfl eu13) ?_
     refine L.y rfl (Y.fieldP fd46_2 rfl) ?_
     refine L.y rfl (Y.loadP (i := 0) ag44 rfl rfl rfl) ?_
     refine L.y rfl (Y.lenM (g := (PR gP46)) (l := u13.kids_) Try.underlying44 rfl (fun w hw => As.at_ (hw.get (i := 3) rfl))) ?_
     refine L.ite h rfl (Y.eql rfl rfl) (fun c14 h => ?_) (fun c14 h => ?_)
     ·
      refine L.y rfl (Y.assign rfl) ?_
      refine L.nil (E.thenN (W.condT rfl ?_))
      refine W.seq (W.region (L.y rfl (Y.move rfl) ?_))
      refine L.y rfl (Y.move rfl) ?_
      refine L.y rfl (Y.apNil rfl eu13) ?_
      refine L.y rfl (Y.fieldP fd46_0 rfl) ?_
      refine L.y rfl (Y.loadP (i := 0) ag25 rfl rfl rfl) ?_
      refine L.y rfl (Y.move rfl) ?_
      refine L.y rfl (Y.move rfl) ?_
      refine L.litOne rfl Try.underlying25 eL3 rfl rfl ?_
      intro b15
      refine L.insRD (i := 2) (j := 0) (l := u13.keys_) (x1 := a1) (a := gx1) h wInsR10 (fun _ => rfl) rfl en10 rfl rfl rfl rfl rfl (by decide) ?_
      intro v17 l16 el16 h
      refine L.y rfl (Y.apNil rfl eu13) ?_
      refine L.y rfl (Y.fieldP fd46_0 rfl) ?_
      refine L.storeV (i := 1) sz25 rfl rfl (fun _ hw => (As.at_ (hw.get (i := 2) rfl)).one) rfl (Nat.le_of_ble_eq_true rfl) ?_
      refine L.nil (E.thenN (W.seq (W.region (L.y rfl (Y.move rfl) ?_))))
      refine L.y rfl (Y.move rfl) ?_
      refine L.y rfl (Y.apNil rfl eu13) ?_
      refine L.y rfl (Y.fieldP fd46_1 rfl) ?_
      refine L.y rfl (Y.loadP (i := 1) ag43 rfl rfl rfl) ?_
      refine L.y rfl (Y.move rfl) ?_
      refine L.y rfl (Y.move rfl) ?_
      refine L.litOne rfl Try.underlying43 eL9 rfl rfl ?_
      intro b18
      refine L.insRD (i := 4) (j := 0) (l := u13.texts_) (x1 := a2) (a := gx1) h wInsR28 (fun _ => rfl) rfl en28 rfl rfl rfl rfl rfl (by decide) ?_
      intro v20 l19 el19 h
      refine L.y rfl (Y.apNil rfl eu13) ?_
      refine L.y rfl (Y.fieldP fd46_1 rfl) ?_
      refine L.storeV (i := 2) sz43 rfl rfl (fun _ hw => (As.at_ (hw.get (i := 4) rfl)).one) rfl (Nat.le_of_ble_eq_true rfl) ?_
      refine L.nil (E.thenN (W.seq (W.region (L.y rfl (Y.assign rfl) ?_))))
      refine L.nil (E.thenN (W.ret (E.blockR (E.KSR ?_))))
      obtain ⟨l21, el21, h⟩ := bind1S h
      refine E.arClose (row := Tnode.rowA gP46) (sub := Tnode.subA gP46) (e := 46) (g := gP46) (gh := qP46) (vs' := [v17, v20, (gv (qP46 a0.toNat) 2)]) (hs := []) (hs' := (a0.toNat :: [])) (m' := [.sl (sv b18 1) 9 1 (([a2]).map SR), .sl (sv b15 1) 3 1 (([a1]).map I)]) [2, 3, 4, 5, 6, 0, 1] el21 (by decide) rfl (fun _ => List.mem_cons) List.not_mem_nil ?_
      intro q22
      replace hGr46 := hGr46.upd el21
      refine E.to (D := Cls w F [ar46 gP46 q22 l21 [], .sl (sv b18 1) 9 1 (([a2]).map SR), .sl (sv b15 1) 3 1 (([a1]).map I)]) (fun _ hw => hw) ?_
      refine E.ret1 rfl rfl (fun w1 hw => ?_)
      obtain rfl := Option.some.inj h
      exact ⟨_, _, rfl, ⟨_, _, (hg46 ▸ hGr46), rfl, rfl⟩, hw.sel [0] (by decide) rfl⟩
     ·
      refine L.y rfl (Y.assign rfl) ?_
      refine L.nil (E.thenN (W.condF rfl ?_))
      refine W.skip (E.blockN (E.to (D := Cls w F [ar46 gP46 qP46 A46 []]) (fun _ hw => hw.arShut (hs' := (a0.toNat :: [])) [0, 1, 2, 3, 4] eu13 (by decide) rfl (fun _ => List.mem_cons) List.not_mem_nil) ?_))
      exact E.joinJ ⟨rfl, rfl, h⟩ ⟨rfl, rfl, rfl, rfl, trivial⟩ (fun _ hw => hw)
    ·
     rintro _ _ ⟨rfl, rfl, h⟩
     rw [m17_tree_node_put_K2] at h
     refine W.seq (W.region (L.y rfl (Y.move rfl) ?_))
     obtain ⟨u1, eu1, h⟩ := bind1S h
     refine L.to (D := Cls w F [.obj (gP46 a0.toNat) [(gv (qP46 a0.toNat) 0), (gv (qP46 a0.toNat) 1), (gv (qP46 a0.toNat) 2)] 46, .sl (gv (qP46 a0.toNat) 0) 3 1 (u1.keys_.map I), .sl (gv (qP46 a0.toNat) 1) 9 1 (u1.texts_.map SR), .sl (gv (qP46 a0.toNat) 2) 42 1 (u1.kids_.map (PR gP46)), ar46 gP46 qP46 A46 (a0.toNat :: [])]) (fun _ hw => hw.arOpen (p := 0) rfl eu1 List.not_mem_nil) ?_
     refine L.y rfl (Y.apNil rfl eu1) ?_
     refine L.y rfl (Y.fieldP fd46_2 rfl) ?_
     refine L.y rfl (Y.loadP (i := 0) ag44 rfl rfl rfl) ?_
     refine L.y rfl (Y.move rfl) ?_
     refine L.m (V := fun _ => el (gv (qP46 a0.toNat) 2) (gx1.toNat * 1)) h rfl (Y.indexM (g := (PR gP46)) (l := u1.kids_) Try.underlying44 sz42 rfl rfl (fun w hw => As.at_ (hw.get (i := 3) rfl))) (fun x2 ex2 h => ?_)
     refine L.y rfl (Y.loadE1 (u := VP gP46 x2) ag42 rfl (fun w hw => As.at_ (hw.get (i := 3) rfl)) (idx_map ex2)) ?_
     refine L.y rfl (Y.move rfl) ?_
     refine L.y rfl (Y.move rfl) ?_
     refine L.to (D := Cls w F [ar46 gP46 qP46 A46 []]) (fun _ hw => hw.arShut (hs' := (a0.toNat :: [])) [0, 1, 2, 3, 4] eu1 (by decide) rfl (fun _ => List.mem_cons) List.not_mem_nil) ?_
     obtain ⟨_, ck3, h⟩ := bind1S h
     replace ck3 := ck_some ck3
     obtain ⟨l4, b5, e6, h⟩ := bind2S h
     refine L.doesP (A := [ar46 gP46 qP46 A46 []]) (M := []) rfl en17 rfl (fun w' hw => ih x2 a1 a2 A46 gP46 qP46 w' _ e6 _ hw.lend) ?_
     rintro _ _ ⟨gP46, q7, hg8, rfl, rfl⟩
     replace hGr46 := hGr46.trans hg8
     rw [VP_up hg8 ck3]
     refine L.to (D := Cls w F [ar46 gP46 q7 l4 []]) (fun _ hw => hw) ?_
     refine L.y rfl (Y.assign rfl) ?_
     refine L.nil (E.thenN (W.seq (W.region (L.y rfl (Y.move rfl) ?_))))
     refine L.y rfl (Y.move rfl) ?_
     obtain ⟨l9, e10, h⟩ := bind1S h
     refine L.doesP (A := [ar46 gP46 q7 l4 []]) (M := []) rfl en18 rfl (fun w' hw => w18_tree_node_lift a0 gx1 l4 gP46 q7 w' _ e10 _ hw.lend) ?_
     rintro _ _ ⟨gP46, q11, hg12, rfl, rfl⟩
     replace hGr46 := hGr46.trans hg12
     refine L.to (D := Cls w F [ar46 gP46 q11 l9 []]) (fun _ hw => hw) ?_
     refine L.nil (E.thenN (W.seq (W.region (L.y rfl (Y.move rfl) ?_))))
     refine L.y rfl (Y.assign rfl) ?_
     refine L.nil (E.thenN (W.ret (E.ret1 rfl rfl (fun w1 hw => ?_))))
     obtain rfl := Option.some.inj h
     exact ⟨_, _, rfl, ⟨_, _, (hg46 ▸ hGr46), rfl, rfl⟩, hw⟩
   ·
    replace h := iteT h
    refine W.seq (W.block (W.seq (W.region (L.y rfl (Y.move rfl) ?_))))
    refine L.y rfl (Y.assign rfl) ?_
    refine L.nil (E.thenN (W.condT rfl ?_))
    refine W.seq (W.region (L.y rfl (Y.move rfl) ?_))
    obtain ⟨u23, eu23, h⟩ := bind1S h
    refine L.to (D := Cls w F [.obj (gP46 a0.toNat) [(gv (qP46 a0.toNat) 0), (gv (qP46 a0.toNat) 1), (gv (qP46 a0.toNat) 2)] 46, .sl (gv (qP46 a0.toNat) 0) 3 1 (u23.keys_.map I), .sl (gv (qP46 a0.toNat) 1) 9 1 (u23.texts_.map SR), .sl (gv (qP46 a0.toNat) 2) 42 1 (u23.kids_.map (PR gP46)), ar46 gP46 qP46 A46 (a0.toNat :: [])]) (fun _ hw => hw.arOpen (p := 0) rfl eu23 List.not_mem_nil) ?_
    refine L.y rfl (Y.apNil rfl eu23) ?_
    refine L.y rfl (Y.fieldP fd46_1 rfl) ?_
    refine L.y rfl (Y.loadP (i := 0) ag43 rfl rfl rfl) ?_
    refine L.y rfl (Y.move rfl) ?_
    refine L.y rfl (Y.move rfl) ?_
    refine L.m (V := fun _ => el (gv (qP46 a0.toNat) 1) (gx1.toNat * 1)) h rfl (Y.indexM (g := SR) (l := u23.texts_) Try.underlying43 sz9 rfl rfl (fun w hw => As.at_ (hw.get (i := 2) rfl))) (fun x24 ex24 h => ?_)
    refine L.storeSlM (q := 2) (row := SR) (vs := [st a2]) (j := 0) (u1 := a2) h sz9 rfl rfl rfl rfl rfl (all1 rfl all0) rfl ex24 rfl rfl ?_
    intro l25 el25 h
    refine L.nil (E.thenN (W.seq (W.region (L.y rfl (Y.assign rfl) ?_))))
    refine L.nil (E.thenN (W.ret (E.blockR (E.thenR ?_))))
    obtain ⟨l26, el26, h⟩ := bind1S h
    refine E.arClose (row := Tnode.rowA gP46) (sub := Tnode.subA gP46) (e := 46) (g := gP46) (gh := qP46) (vs' := [(gv (qP46 a0.toNat) 0), (gv (qP46 a0.toNat) 1), (gv (qP46 a0.toNat) 2)]) (hs := []) (hs' := (a0.toNat :: [])) (m' := []) [0, 1, 2, 3, 4] el26 (by decide) rfl (fun _ => List.mem_cons) List.not_mem_nil ?_
    intro q27
    replace hGr46 := hGr46.upd el26
    refine E.to (D := Cls w F [ar46 gP46 q27 l26 []]) (fun _ hw => hw) ?_
    refine E.ret1 rfl rfl (fun w1 hw => ?_)
    obtain rfl := Option.some.inj h
    exact ⟨_, _, rfl, ⟨_, _, (hg46 ▸ hGr46), rfl, rfl⟩, hw⟩
theorem w17_tree_node_put (a0 : Int) (a1 : Int) (a2 : (List UInt8)) (A46 : (List Tnode)) (gP46 : Nat → Nat) (qP46 : Nat → List Value) (w : World) (r : ((List Tnode) × Bool)) (h : m17_tree_node_put a0 a1 a2 A46 = some r) (F : List Nat) (hc0 : Cls w F [ar46 gP46 qP46 A46 []] w) : DoesF Try.prog 17 [VP gP46 a0, .int .i64 a1, st a2] F w fun u m => ∃ G46 Q46, Gr gP46 A46.length G46 r.1.length ∧ u = .bool r.2 ∧ m = [ar46 G46 Q46 r.1 []] := w17_tree_node_putR big a0 a1 a2 A46 gP46 qP46 w r h F hc0
set_option maxRecDepth 100000 in
set_option maxHeartbeats 8000000 in
theorem w9_tree_Tree_Put (a0 : Int) (a1 : Int) (a2 : (List UInt8)) (A46 : (List Tnode)) (A48 : (List TTree)) (gP46 : Nat → Nat) (gP48 : Nat → Nat) (qP46 : Nat → List Value) (qP48 : Nat → List Value) (w : World) (r : ((List Tnode) × (List TTree) × Int)) (h : m9_tree_Tree_Put a0 a1 a2 A46 A48 = some r) (F : List Nat) (hc0 : Cls w F [ar46 gP46 qP46 A46 [], ar48 gP46 gP48 qP48 A48 []] w) : DoesF Try.prog 9 [VP gP48 a0, .int .i64 a1, st a2] F w fun u m => ∃ G46 Q46 Q48, Gr gP46 A46.length G46 r.1.length ∧ u = .int .i64 r.2.2 ∧ m = [ar46 G46 Q46 r.1 [], ar48 G46 gP48 Q48 r.2.1 []] := by
  rw [m9_tree_Tree_Put] at h
  obtain ⟨g46, hg46⟩ : ∃ g, g = gP46 := ⟨_, rfl⟩
  have hGr46 : Gr g46 A46.length gP46 A46.length := hg46 ▸ Gr.refl _ _
  refine body (n := 62) Try.func9 rfl rfl rfl hc0 ?_
  refine W.seq (W.region (L.y rfl (Y.assign rfl) ?_))
  refine L.nil (E.thenN (W.seqJ (fun gs D => gs = [(0, VP gP48 a0), (1, .int .i64 a1), (2, st a2)] ∧ D = Cls w F [ar46 gP46 qP46 A46 [], ar48 gP46 gP48 qP48 A48 []] ∧ m9_tree_Tree_Put_K1 A48 a0 A46 a1 a2 = some r) ?_ ?_))
  ·
   refine W.seq (W.region (L.y rfl (Y.move rfl) ?_))
   refine L.y rfl (Y.move rfl) ?_
   obtain ⟨s32, x33, e34, h⟩ := bind2S h
   refine L.doesP (A := [ar46 gP46 qP46 A46 [], ar48 gP46 gP48 qP48 A48 []]) (M := []) rfl en6 rfl (fun w' hw => w6_tree_Tree_Get a0 a1 A46 A48 gP46 gP48 qP46 qP48 w' _ e34 _ hw.lend) ?_
   rintro _ _ ⟨rfl, rfl⟩
   refine L.to (D := Cls w F [ar46 gP46 qP46 A46 [], ar48 gP46 gP48 qP48 A48 []]) (fun _ hw => hw) ?_
   refine L.y rfl (Y.move rfl) ?_
   refine L.y rfl (Y.extract rfl rfl) ?_
   refine L.y rfl (Y.extract rfl rfl) ?_
   refine L.y rfl (Y.assign rfl) ?_
   refine L.y rfl (Y.assign rfl) ?_
   refine L.nil (E.thenN (W.seq (W.region (L.y rfl (Y.move rfl) ?_))))
   refine L.ite h rfl (Y.neq rfl rfl) (fun c35 h => ?_) (fun c35 h => ?_)
   ·
    refine L.y rfl (Y.move rfl) ?_
    refine L.take rfl (L.y rfl (Y.move rfl) ?_)
    refine L.take rfl ?_
    obtain ⟨u36, eu36, h⟩ := bind1S h
    refine L.to (D := Cls w F [.obj (gP48 a0.toNat) [VP gP46 u36.root_, .int .i64 u36.n_] 48, ar48 gP46 gP48 qP48 A48 (a0.toNat :: []), ar46 gP46 qP46 A46 []]) (fun _ hw => hw.arOpen (p := 1) rfl eu36 List.not_mem_nil) ?_
    refine L.y rfl (Y.apNil rfl eu36) ?_
    refine L.take rfl (L.y rfl (Y.fieldP fd48_1 rfl) ?_)
    refine L.take rfl (L.y rfl (Y.loadP (i := 0) ag3 rfl rfl rfl) ?_)
    refine L.take rfl (L.ite h rfl (Y.geq rfl rfl) (fun c37 h => ?_) (fun c37 h => ?_))
    ·
     refine L.y rfl (Y.pickT rfl rfl) ?_
     refine L.nil (E.thenN (W.condT rfl ?_))
     refine W.seq (W.region (L.y rfl (Y.assign rfl) ?_))
     refine L.nil (E.thenN (W.ret (E.KSR (E.to (D := Cls w F [ar48 gP46 gP48 qP48 A48 [], ar46 gP46 qP46 A46 []]) (fun _ hw => hw.arShut (hs' := (a0.toNat :: [])) [0, 1, 2] eu36 (by decide) rfl (fun _ => List.mem_cons) List.not_mem_nil) ?_))))
     refine E.ret1 rfl rfl (fun w1 hw => ?_)
     obtain rfl := Option.some.inj h
     exact ⟨_, _, rfl, ⟨_, _, _, (hg46 ▸ hGr46), rfl, rfl⟩, hw.sel [1, 0] (by decide) rfl⟩
    ·
     refine L.y rfl (Y.pickT rfl rfl) ?_
     refine L.nil (E.thenN (W.condF rfl ?_))
     refine W.skip (E.to (D := Cls w F [ar48 gP46 gP48 qP48 A48 [], ar46 gP46 qP46 A46 []]) (fun _ hw => hw.arShut (hs' := (a0.toNat :: [])) [0, 1, 2] eu36 (by decide) rfl (fun _ => List.mem_cons) List.not_mem_nil) ?_)
     exact E.joinJ ⟨rfl, rfl, h⟩ ⟨rfl, rfl, rfl, trivial⟩ (fun _ hw => hw.sel [1, 0] (by decide) rfl)
   ·
    refine L.y rfl (Y.move rfl) ?_
    refine L.pass rfl rfl (by nofun) ?_
    refine L.pass rfl rfl (by nofun) ?_
    refine L.pass rfl rfl (by nofun) ?_
    refine L.pass rfl rfl (by nofun) ?_
    refine L.pass rfl rfl (by nofun) ?_
    refine L.y rfl (Y.pickF rfl rfl) ?_
    refine L.nil (E.thenN (W.condF rfl ?_))
    exact W.skip (E.joinJ ⟨rfl, rfl, h⟩ ⟨rfl, rfl, rfl, trivial⟩ (fun _ hw => hw))
  ·
   rintro _ _ ⟨rfl, rfl, h⟩
   rw [m9_tree_Tree_Put_K1] at h
   refine W.seqJ (fun gs D => ∃ (gP46 : Nat → Nat) (gl2 : (List Tnode)) (gq3 : Nat → List Value) (gu4 : Unit) (gl5 : (List TTree)) (gq6 : Nat → List Value), gs = [(0, VP gP48 a0)] ∧ D = Cls w F [ar46 gP46 gq3 gl2 [], ar48 gP46 gP48 gq6 gl5 []] ∧ Gr g46 A46.length gP46 gl2.length ∧ m9_tree_Tree_Put_K2 a0 gl2 gl5 = some r) ?_ ?_
   ·
    refine W.seq (W.region (L.y rfl (Y.move rfl) ?_))
    obtain ⟨u21, eu21, h⟩ := bind1S h
    refine L.to (D := Cls w F [.obj (gP48 a0.toNat) [VP gP46 u21.root_, .int .i64 u21.n_] 48, ar48 gP46 gP48 qP48 A48 (a0.toNat :: []), ar46 gP46 qP46 A46 []]) (fun _ hw => hw.arOpen (p := 1) rfl eu21 List.not_mem_nil) ?_
    refine L.y rfl (Y.apNil rfl eu21) ?_
    refine L.y rfl (Y.fieldP fd48_0 rfl) ?_
    refine L.y rfl (Y.loadP (i := 0) ag42 rfl rfl rfl) ?_
    refine L.y rfl (Y.move rfl) ?_
    refine L.y rfl (Y.move rfl) ?_
    refine L.to (D := Cls w F [ar48 gP46 gP48 qP48 A48 [], ar46 gP46 qP46 A46 []]) (fun _ hw => hw.arShut (hs' := (a0.toNat :: [])) [0, 1, 2] eu21 (by decide) rfl (fun _ => List.mem_cons) List.not_mem_nil) ?_
    obtain ⟨_, ck22, h⟩ := bind1S h
    replace ck22 := ck_some ck22
    refine L.to (D := Cls w F [ar46 gP46 qP46 A46 [], ar48 gP46 gP48 qP48 A48 []]) (fun _ hw => hw.sel [1, 0] (by decide) rfl) ?_
    obtain ⟨l23, b24, e25, h⟩ := bind2S h
    refine L.doesP (A := [ar46 gP46 qP46 A46 []]) (M := [ar48 gP46 gP48 qP48 A48 []]) rfl en17 rfl (fun w' hw => w17_tree_node_put u21.root_ a1 a2 A46 gP46 qP46 w' _ e25 _ hw.lend) ?_
    rintro _ _ ⟨gP46, q26, hg27, rfl, rfl⟩
    replace hGr46 := hGr46.trans hg27
    rw [ar48_up46 hg27 ck22]
    refine L.to (D := Cls w F [ar46 gP46 q26 l23 [], ar48 gP46 gP48 qP48 A48 []]) (fun _ hw => hw) ?_
    rcases b24 with _ | _
    ·
     replace h := iteF h
     refine L.nil (E.thenN (W.condF rfl ?_))
     exact W.skip (E.joinJ ⟨gP46, l23, q26, (), A48, qP48, rfl, rfl, hGr46, h⟩ ⟨rfl, trivial⟩ (fun _ hw => hw))
    ·
     replace h := iteT h
     refine L.nil (E.thenN (W.condT rfl ?_))
     refine W.region (L.y rfl (Y.move rfl) ?_)
     obtain ⟨u28, eu28, h⟩ := bind1S h
     refine L.to (D := Cls w F [.obj (gP48 a0.toNat) [VP gP46 u28.root_, .int .i64 u28.n_] 48, ar48 gP46 gP48 qP48 A48 (a0.toNat :: []), ar46 gP46 q26 l23 []]) (fun _ hw => hw.arOpen (p := 1) rfl eu28 List.not_mem_nil) ?_
     refine L.y rfl (Y.apNil rfl eu28) ?_
     refine L.y rfl (Y.fieldP fd48_1 rfl) ?_
     refine L.y rfl (Y.loadP (i := 0) ag3 rfl rfl rfl) ?_
     refine L.m (V := fun x29 => .int .i64 x29) h rfl (Y.addM rfl rfl) (fun x29 ex29 h => ?_)
     refine L.y rfl (Y.apNil rfl eu28) ?_
     refine L.y rfl (Y.fieldP fd48_1 rfl) ?_
     refine L.store (i := 0) (vs := [.int .i64 x29]) sz3 rfl rfl rfl rfl (by simp [Value.oneCell', Value.cells, st, pt, el]) rfl (Nat.le_of_ble_eq_true rfl) ?_
     refine L.nil ?_
     obtain ⟨l30, el30, h⟩ := bind1S h
     refine E.arClose (row := TTree.rowA gP46) (sub := TTree.subA gP46) (e := 48) (g := gP48) (gh := qP48) (vs' := []) (hs := []) (hs' := (a0.toNat :: [])) (m' := [ar46 gP46 q26 l23 []]) [0, 1, 2] el30 (by decide) rfl (fun _ => List.mem_cons) List.not_mem_nil ?_
     intro q31
     refine E.to (D := Cls w F [ar48 gP46 gP48 q31 l30 [], ar46 gP46 q26 l23 []]) (fun _ hw => hw) ?_
     exact E.joinJ ⟨gP46, l23, q26, (), l30, q31, rfl, rfl, hGr46, h⟩ ⟨rfl, trivial⟩ (fun _ hw => hw.sel [1, 0] (by decide) rfl)
   ·
    rintro _ _ ⟨gP46, gl2, gq3, gu4, gl5, gq6, rfl, rfl, hGr46, h⟩
    rw [m9_tree_Tree_Put_K2] at h
    refine W.seq (W.seq (W.region (L.y rfl (Y.move rfl) ?_)))
    obtain ⟨u1, eu1, h⟩ := bind1S h
    refine L.to (D := Cls w F [.obj (gP48 a0.toNat) [VP gP46 u1.root_, .int .i64 u1.n_] 48, ar48 gP46 gP48 gq6 gl5 (a0.toNat :: []), ar46 gP46 gq3 gl2 []]) (fun _ hw => hw.arOpen (p := 1) rfl eu1 List.not_mem_nil) ?_
    refine L.y rfl (Y.apNil rfl eu1) ?_
    refine L.y rfl (Y.fieldP fd48_0 rfl) ?_
    refine L.y rfl (Y.loadP (i := 0) ag42 rfl rfl rfl) ?_
    refine L.to (D := Cls w F [ar48 gP46 gP48 gq6 gl5 [], ar46 gP46 gq3 gl2 []]) (fun _ hw => hw.arShut (hs' := (a0.toNat :: [])) [0, 1, 2] eu1 (by decide) rfl (fun _ => List.mem_cons) List.not_mem_nil) ?_
    obtain ⟨u2, eu2, h⟩ := bind1S h
    refine L.to (D := Cls w F [.obj (gP46 u1.root_.toNat) [(gv (gq3 u1.root_.toNat) 0), (gv (gq3 u1.root_.toNat) 1), (gv (gq3 u1.root_.toNat) 2)] 46, .sl (gv (gq3 u1.root_.toNat) 0) 3 1 (u2.keys_.map I), .sl (gv (gq3 u1.root_.toNat) 1) 9 1 (u2.texts_.map SR), .sl (gv (gq3 u1.root_.toNat) 2) 42 1 (u2.kids_.map (PR gP46)), ar46 gP46 gq3 gl2 (u1.root_.toNat :: []), ar48 gP46 gP48 gq6 gl5 []]) (fun _ hw => hw.arOpen (p := 1) rfl eu2 List.not_mem_nil) ?_
    refine L.y rfl (Y.apNil rfl eu2) ?_
    refine L.y rfl (Y.fieldP fd46_0 rfl) ?_
    refine L.y rfl (Y.loadP (i := 0) ag25 rfl rfl rfl) ?_
    refine L.y rfl (Y.lenM (g := I) (l := u2.keys_) Try.underlying25 rfl (fun w hw => As.at_ (hw.get (i := 1) rfl))) ?_
    refine L.ite h rfl (Y.gtr rfl rfl) (fun c3 h => ?_) (fun c3 h => ?_)
    ·
     refine L.nil (E.thenN (W.condT rfl ?_))
     refine W.seq (W.region (L.y rfl (Y.move rfl) ?_))
     refine L.y rfl (Y.move rfl) ?_
     refine L.to (D := Cls w F [ar46 gP46 gq3 gl2 [], ar48 gP46 gP48 gq6 gl5 []]) (fun _ hw => hw.arShut (hs' := (u1.root_.toNat :: [])) [0, 1, 2, 3, 4, 5] eu2 (by decide) rfl (fun _ => List.mem_cons) List.not_mem_nil) ?_
     obtain ⟨u4, eu4, h⟩ := bind1S h
     refine L.to (D := Cls w F [.obj (gP48 a0.toNat) [VP gP46 u4.root_, .int .i64 u4.n_] 48, ar48 gP46 gP48 gq6 gl5 (a0.toNat :: []), ar46 gP46 gq3 gl2 []]) (fun _ hw => hw.arOpen (p := 1) rfl eu4 List.not_mem_nil) ?_
     refine L.y rfl (Y.apNil rfl eu4) ?_
     refine L.y rfl (Y.fieldP fd48_0 rfl) ?_
     refine L.y rfl (Y.loadP (i := 0) ag42 rfl rfl rfl) ?_
     refine L.litOne rfl Try.underlying44 eL42 rfl (VP_cells _ _) ?_
     intro b5
     refine L.y rfl (Y.buildC (cells := #[.slice none 0 0, .slice none 0 0, (sv b5 1)]) rfl (fun w hw => by rcases ((As.at_ (hw.get (i := 0) rfl))).shape with ⟨h0, _⟩ | ⟨_, _, h0, _, _⟩ <;> simp only [h0] <;> kernel_rfl)) ?_
     refine L.box rfl rfl ?_
     intro b6
     refine L.y rfl (Y.apNil rfl eu4) ?_
     refine L.y rfl (Y.fieldP fd48_0 rfl) ?_
     refine L.nilSl 3 1 ?_
     refine L.nilSl 9 1 ?_
     obtain ⟨_, ck7, h⟩ := bind1S h
     replace ck7 := ck_some ck7
     obtain ⟨ck7_0, ck7_1, ck7_2⟩ := ck7
     refine L.arNew (rowg := fun g => Tnode.rowA g) (subg := fun g => Tnode.subA g) (e := 46) (g := gP46) (gh := gq3) (l := gl2) (hs := []) (b := b6) (u1 := (⟨[], [], [u4.root_]⟩ : Tnode)) (vs' := [(.slice none 0 0), (.slice none 0 0), (sv b5 1)]) (m' := [.obj (gP48 a0.toNat) [VP gP46 u4.root_, .int .i64 u4.n_] 48, ar48 gP46 gP48 gq6 gl5 (a0.toNat :: [])]) [2, 1, 0, 3, 6, 4, 5] h (by decide) rfl (fun _ h => nomatch h) (fun g' hg x hx v => Tnode.cg46 ⟨Nat.le_refl _, hg⟩ (ck7_0 x hx)) ?_
     intro gP46 q8 x9 l10 h hg11 hv12 hi13
     rw [hv12]
     replace hGr46 := hGr46.trans hg11
     rw [ar48_up46 hg11 ck7_1]
     rw [VP_up hg11 ck7_2]
     refine L.to (D := Cls w F [ar46 gP46 q8 l10 [], .obj (gP48 a0.toNat) [VP gP46 u4.root_, .int .i64 u4.n_] 48, ar48 gP46 gP48 gq6 gl5 (a0.toNat :: [])]) (fun _ hw => hw) ?_
     refine L.storeA (i := 1) sz42 rfl rfl rfl (Nat.le_of_ble_eq_true rfl) ?_
     refine L.nil (E.thenN (W.region (L.y rfl (Y.move rfl) ?_)))
     refine L.y rfl (Y.apNil rfl eu4) ?_
     refine L.y rfl (Y.fieldP fd48_0 rfl) ?_
     refine L.y rfl (Y.loadP (i := 1) ag42 rfl rfl rfl) ?_
     obtain ⟨l14, el14, h⟩ := bind1S h
     refine L.arClose (row := TTree.rowA gP46) (sub := TTree.subA gP46) (e := 48) (g := gP48) (gh := gq6) (vs' := []) (hs := []) (hs' := (a0.toNat :: [])) (m' := [ar46 gP46 q8 l10 []]) [1, 2, 0] el14 (by decide) rfl (fun _ => List.mem_cons) List.not_mem_nil ?_
     intro q15
     refine L.to (D := Cls w F [ar48 gP46 gP48 q15 l14 [], ar46 gP46 q8 l10 []]) (fun _ hw => hw) ?_
     obtain ⟨_, ck16, h⟩ := bind1S h
     replace ck16 := ck_some ck16
     refine L.to (D := Cls w F [ar46 gP46 q8 l10 [], ar48 gP46 gP48 q15 l14 []]) (fun _ hw => hw.sel [1, 0] (by decide) rfl) ?_
     obtain ⟨l17, e18, h⟩ := bind1S h
     refine L.doesP (A := [ar46 gP46 q8 l10 []]) (M := [ar48 gP46 gP48 q15 l14 []]) rfl en18 rfl (fun w' hw => w18_tree_node_lift x9 0 l10 gP46 q8 w' _ e18 _ hw.lend) ?_
     rintro _ _ ⟨gP46, q19, hg20, rfl, rfl⟩
     replace hGr46 := hGr46.trans hg20
     rw [ar48_up46 hg20 ck16]
     refine L.to (D := Cls w F [ar46 gP46 q19 l17 [], ar48 gP46 gP48 q15 l14 []]) (fun _ hw => hw) ?_
     refine L.nil (E.thenN (W.seq (W.region (L.y rfl (Y.assign rfl) ?_))))
     refine L.nil (E.thenN (W.ret (E.ret1 rfl rfl (fun w1 hw => ?_))))
     obtain rfl := Option.some.inj h
     exact ⟨_, _, rfl, ⟨_, _, _, (hg46 ▸ hGr46), rfl, rfl⟩, hw⟩
    ·
     refine L.nil (E.thenN (W.condF rfl ?_))
     refine W.skip (E.thenN (W.seq (W.region (L.y rfl (Y.assign rfl) ?_))))
     refine L.nil (E.thenN (W.ret (E.to (D := Cls w F [ar46 gP46 gq3 gl2 [], ar48 gP46 gP48 gq6 gl5 []]) (fun _ hw => hw.arShut (hs' := (u1.root_.toNat :: [])) [0, 1, 2, 3, 4, 5] eu2 (by decide) rfl (fun _ => List.mem_cons) List.not_mem_nil) ?_)))
     refine E.ret1 rfl rfl (fun w1 hw => ?_)
     obtain rfl := Option.some.inj h
     exact ⟨_, _, rfl, ⟨_, _, _, (hg46 ▸ hGr46), rfl, rfl⟩, hw⟩
set_option maxRecDepth 100000 in
set_option maxHeartbeats 8000000 in
theorem w12_tree_Tree_Len (a0 : Int) (A48 : (List TTree)) (gP46 : Nat → Nat) (gP48 : Nat → Nat) (qP48 : Nat → List Value) (w : World) (r : Int) (h : m12_tree_Tree_Len a0 A48 = some r) (F : List Nat) (hc0 : Cls w F [ar48 gP46 gP48 qP48 A48 []] w) : DoesF Try.prog 12 [VP gP48 a0] F w fun u m => u = .int .i64 r ∧ m = [ar48 gP46 gP48 qP48 A48 []] := by
  rw [m12_tree_Tree_Len] at h
  refine body (n := 7) Try.func12 rfl rfl rfl hc0 ?_
  refine W.seq (W.region (L.y rfl (Y.assign rfl) ?_))
  refine L.nil (E.thenN (W.seq (W.region (L.y rfl (Y.move rfl) ?_))))
  obtain ⟨u1, eu1, h⟩ := bind1S h
  refine L.to (D := Cls w F [.obj (gP48 a0.toNat) [VP gP46 u1.root_, .int .i64 u1.n_] 48, ar48 gP46 gP48 qP48 A48 (a0.toNat :: [])]) (fun _ hw => hw.arOpen (p := 0) rfl eu1 List.not_mem_nil) ?_
  refine L.y rfl (Y.apNil rfl eu1) ?_
  refine L.y rfl (Y.fieldP fd48_1 rfl) ?_
  refine L.y rfl (Y.loadP (i := 0) ag3 rfl rfl rfl) ?_
  refine L.y rfl (Y.assign rfl) ?_
  refine L.nil (E.thenN (W.ret (E.to (D := Cls w F [ar48 gP46 gP48 qP48 A48 []]) (fun _ hw => hw.arShut (hs' := (a0.toNat :: [])) [0, 1] eu1 (by decide) rfl (fun _ => List.mem_cons) List.not_mem_nil) ?_)))
  refine E.ret1 rfl rfl (fun w1 hw => ?_)
  obtain rfl := Option.some.inj h
  exact ⟨_, _, rfl, ⟨rfl, rfl⟩, hw⟩
set_option maxRecDepth 100000 in
set_option maxHeartbeats 8000000 in
theorem w3_quirlaw_TreePlays (a0 : (List TKeyDeed)) (a1 : Int) (u0 : Value) (w : World) (hz : w.drawn = 0) (r : Bool) (h : m3_quirlaw_TreePlays a0 a1 = some r) (hA0 : At w u0 3 (a0.map TKeyDeed.row)) : Does0 Try.prog 3 [u0, .int .i64 a1] w fun u m => u = .bool r ∧ m = [] := by
  rw [m3_quirlaw_TreePlays] at h
  obtain ⟨gP46, _⟩ : ∃ g : Nat → Nat, True := ⟨fun _ => 0, trivial⟩
  obtain ⟨gP48, _⟩ : ∃ g : Nat → Nat, True := ⟨fun _ => 0, trivial⟩
  refine bodyM (n := 167) Try.func3 rfl rfl rfl hz ?_
  refine W.to (D := Cls w [] [ar46 gP46 (fun _ => []) [] [], ar48 gP46 gP48 (fun _ => []) [] []]) (fun _ hw => ((hw.ar0 (TTree.rowA gP46) (TTree.subA gP46) 48 gP48 (fun _ => [])).ar0 (Tnode.rowA gP46) (Tnode.subA gP46) 46 gP46 (fun _ => []))) ?_
  refine W.seq (W.region (L.alloc rfl ze4 ?_))
  intro b1
  refine L.nil (E.thenN (W.seq (W.region (L.to (D := Cls w [] [ar46 gP46 (fun _ => []) [] [], ar48 gP46 gP48 (fun _ => []) [] [], .obj b1 [.bool false] 4]) (fun _ hw => hw.sel [1, 2, 0] (by decide) rfl) ?_))))
  obtain ⟨l2, l3, x4, e5, h⟩ := bind3S h
  refine L.doesP (A := [ar46 gP46 (fun _ => []) [] [], ar48 gP46 gP48 (fun _ => []) [] []]) (M := [.obj b1 [.bool false] 4]) rfl en4 rfl (fun w' hw => w4_tree_New [] [] gP46 gP48 (fun _ => []) (fun _ => []) w' _ e5 _ hw.lend) ?_
  rintro _ _ ⟨gP46, gP48, q6, q7, hg8, hg9, rfl, rfl⟩
  refine L.to (D := Cls w [] [ar46 gP46 q6 l2 [], ar48 gP46 gP48 q7 l3 [], .obj b1 [.bool false] 4]) (fun _ hw => hw) ?_
  refine L.y rfl (Y.assign rfl) ?_
  refine L.nil (E.thenN (W.seqJ (fun gs D => gs = [(0, u0), (1, .int .i64 a1), (4, pt b1 0), (5, VP gP48 x4)] ∧ D = Cls w [] [ar46 gP46 q6 l2 [], ar48 gP46 gP48 q7 l3 [], .obj b1 [.bool false] 4] ∧ m3_quirlaw_TreePlays_K1 a0 x4 a1 l2 l3 = some r) ?_ ?_))
  ·
   refine W.seq (W.region (L.y rfl (Y.move rfl) ?_))
   refine L.ite h rfl (Y.eqlAN Try.underlying23 rfl rfl) (fun c97 h => ?_) (fun c97 h => ?_)
   ·
    refine L.nil (E.thenN (W.condT rfl ?_))
    refine W.seq (W.region (L.store (i := 2) (vs := [.bool false]) sz4 rfl rfl rfl rfl (by simp [Value.oneCell', Value.cells, st, pt, el]) rfl (Nat.le_of_ble_eq_true rfl) ?_))
    refine L.nil (E.thenN (W.ret (E.KSR (E.toM (E.retR1 rfl (Rv.cell1 (i := 2) ag4 rfl rfl) (fun w1 hw => ?_))))))
    obtain rfl := Option.some.inj h
    exact ⟨_, _, rfl, ⟨rfl, rfl⟩, hw.sel [] (by decide) rfl⟩
   ·
    refine L.nil (E.thenN (W.condF rfl ?_))
    exact W.skip (E.joinJ ⟨rfl, rfl, h⟩ ⟨rfl, rfl, rfl, rfl, trivial⟩ (fun _ hw => hw))
  ·
   rintro _ _ ⟨rfl, rfl, h⟩
   rw [m3_quirlaw_TreePlays_K1] at h
   refine W.seq (W.region (L.alloc rfl ze25 ?_))
   intro b10
   refine L.nil (E.thenN (W.seq (W.region (L.makeMap rfl ?_))))
   intro b11
   refine L.alloc rfl ze26 ?_
   intro b12
   refine L.store (i := 0) (vs := [.map (some b11)]) sz26 rfl rfl rfl rfl (by simp [Value.oneCell', Value.cells, st, pt, el]) rfl (Nat.le_of_ble_eq_true rfl) ?_
   refine L.nil (E.thenN (W.seqJ (fun gs D => ∃ (gP46 : Nat → Nat) (gl2 : (List Tnode)) (gq3 : Nat → List Value) (gl4 : (List TTree)) (gq5 : Nat → List Value) (gl6 : (List (Int × (List UInt8)))) (gv7 : Value) (gl8 : (List Int)), gs = [(1, .int .i64 a1), (4, pt b1 0), (5, VP gP48 x4), (6, pt b10 0), (7, pt b12 0)] ∧ D = Cls w [] [ar46 gP46 gq3 gl2 [], ar48 gP46 gP48 gq5 gl4 [], .obj b12 [.map (some b11)] 26, .mp b11 (mrow st gl6), .obj b10 [gv7] 25, .obj b1 [.bool false] 4, .sl gv7 3 1 (gl8.map I)] ∧ m3_quirlaw_TreePlays_K2 a1 x4 gl2 gl4 gl6 gl8 = some r) ?_ ?_))
   ·
    refine W.seq (W.region (L.y rfl (Y.move rfl) ?_))
    refine L.y rfl (Y.lenM (g := TKeyDeed.row) (l := a0) Try.underlying22 rfl (fun w' hw => hA0.cls0 hw)) ?_
    refine L.y rfl (Y.move rfl) ?_
    refine L.nil (E.thenN (W.block (W.nilSl 3 1 ?_)))
    refine W.loopJ (fun m gs D => ∃ (gx12 : Int) (gP46 : Nat → Nat) (gl14 : (List Tnode)) (gq15 : Nat → List Value) (gl16 : (List TTree)) (gq17 : Nat → List Value) (gl18 : (List (Int × (List UInt8)))) (gv19 : Value) (gl20 : (List Int)), gs = [(1, .int .i64 a1), (4, pt b1 0), (5, VP gP48 x4), (6, pt b10 0), (7, pt b12 0), (22, u0), (23, .int .i64 (a0.length : Int)), (24, .int .i64 gx12)] ∧ D = Cls w [] [ar46 gP46 gq15 gl14 [], ar48 gP46 gP48 gq17 gl16 [], .obj b12 [.map (some b11)] 26, .mp b11 (mrow st gl18), .obj b10 [gv19] 25, .obj b1 [.bool false] 4, .sl gv19 3 1 (gl20.map I)] ∧ m3_quirlaw_TreePlays_L2 a0 x4 a1 m gx12 gl14 gl16 gl18 gl20 = some r) ⟨0, gP46, l2, q6, l3, q7, [], .slice none 0 0, [], rfl, rfl, h⟩ ⟨rfl, rfl, rfl, rfl, rfl, rfl, rfl, rfl, trivial⟩ (fun _ hw => hw.sel [4, 5, 1, 2, 3, 6, 0] (by decide) rfl) ?_
    rintro m _ _ ⟨gx12, gP46, gl14, gq15, gl16, gq17, gl18, gv19, gl20, rfl, rfl, h⟩
    rcases m with _ | m
    · rw [m3_quirlaw_TreePlays_L2] at h; cases h
    rw [m3_quirlaw_TreePlays_L2] at h
    generalize hg2 : m3_quirlaw_TreePlays_L2 a0 x4 a1 m = go2 at h
    rw [m3_quirlaw_TreePlays_L2B] at h
    refine W.seq (W.region (L.ite h rfl (Y.lss rfl rfl) (fun c34 h => ?_) (fun c34 h => ?_)))
    ·
     refine L.nil (E.thenN (W.seq (W.condT rfl ?_)))
     refine W.skip (E.thenN (W.seqJ (fun gs D => ∃ (gP46 : Nat → Nat) (gl22 : (List Tnode)) (gq23 : Nat → List Value) (gl24 : (List TTree)) (gq25 : Nat → List Value) (gl26 : (List (Int × (List UInt8)))) (gv27 : Value) (gl28 : (List Int)), gs = [(1, .int .i64 a1), (4, pt b1 0), (5, VP gP48 x4), (6, pt b10 0), (7, pt b12 0), (22, u0), (23, .int .i64 (a0.length : Int)), (24, .int .i64 gx12)] ∧ D = Cls w [] [ar46 gP46 gq23 gl22 [], ar48 gP46 gP48 gq25 gl24 [], .obj b12 [.map (some b11)] 26, .mp b11 (mrow st gl26), .obj b10 [gv27] 25, .obj b1 [.bool false] 4, .sl gv27 3 1 (gl28.map I)] ∧ m3_quirlaw_TreePlays_K4 gx12 go2 gl22 gl24 gl26 gl28 = some r) ?_ ?_))
     ·
      refine W.block (W.seq (W.region (L.m (V := fun _ => el u0 (gx12.toNat * 3)) h rfl (Y.indexM (g := TKeyDeed.row) (l := a0) Try.underlying22 sz28 rfl rfl (fun w' hw => hA0.cls0 hw)) (fun x36 ex36 h => ?_))))
      refine L.y rfl (Y.loadEN (r := [.int .i64 x36.Kind, .int .i64 x36.Key, st x36.Text]) ag28 sz28 rfl (fun w' hw => hA0.cls0 hw) (idx_map ex36) rfl) ?_
      refine L.alloc rfl ze28 ?_
      intro b37
      refine L.store (i := 0) (vs := [.int .i64 x36.Kind, .int .i64 x36.Key, st x36.Text]) sz28 rfl rfl rfl rfl (by simp [Value.oneCell', Value.cells, st, pt, el]) rfl (Nat.le_of_ble_eq_true rfl) ?_
      refine L.nil (E.thenN (W.seqJ (fun gs D => ∃ (gx29 : Int) (gb30 : Bool), gs = [(1, .int .i64 a1), (4, pt b1 0), (5, VP gP48 x4), (6, pt b10 0), (7, pt b12 0), (9, pt b37 0), (10, .int .i64 gx29), (11, .bool gb30), (22, u0), (23, .int .i64 (a0.length : Int)), (24, .int .i64 gx12)] ∧ D = Cls w [] [ar46 gP46 gq15 gl14 [], ar48 gP46 gP48 gq17 gl16 [], .obj b37 [.int .i64 x36.Kind, .int .i64 x36.Key, st x36.Text] 28, .obj b12 [.map (some b11)] 26, .mp b11 (mrow st gl18), .obj b10 [gv19] 25, .obj b1 [.bool false] 4, .sl gv19 3 1 (gl20.map I)] ∧ m3_quirlaw_TreePlays_K5 x4 x36 gl14 gl16 gl18 gl20 gx12 go2 gx29 gb30 = some r) ?_ ?_))
      ·
       refine W.region (L.y rfl (Y.loadP (i := 5) ag25 rfl rfl rfl) ?_)
       refine L.y rfl (Y.fieldP fd28_1 rfl) ?_
       refine L.y rfl (Y.loadP (i := 0) ag3 rfl rfl rfl) ?_
       obtain ⟨x93, b94, e95, h⟩ := bind2S h
       refine L.y rfl (Y.does en5 rfl (fun w' hw => (w5_slices_BinarySearch_int gl20 x36.Key gv19 w' _ e95 (As.at_ (hw.get (i := 7) rfl))).mono (fun _ _ h => h.1))) ?_
       refine L.y rfl (Y.move rfl) ?_
       refine L.y rfl (Y.extract rfl rfl) ?_
       refine L.iteB h rfl (Y.extract rfl rfl) (fun c96 h => ?_) (fun c96 h => ?_)
       ·
        refine L.y rfl (Y.assign rfl) ?_
        refine L.y rfl (Y.assign rfl) ?_
        exact L.nil (E.joinJ ⟨x93, true, rfl, rfl, h⟩ ⟨rfl, rfl, rfl, rfl, rfl, rfl, rfl, rfl, rfl, rfl, rfl, trivial⟩ (fun _ hw => hw.sel [1, 2, 0, 3, 4, 5, 6, 7] (by decide) rfl))
       ·
        refine L.y rfl (Y.assign rfl) ?_
        refine L.y rfl (Y.assign rfl) ?_
        exact L.nil (E.joinJ ⟨x93, false, rfl, rfl, h⟩ ⟨rfl, rfl, rfl, rfl, rfl, rfl, rfl, rfl, rfl, rfl, rfl, trivial⟩ (fun _ hw => hw.sel [1, 2, 0, 3, 4, 5, 6, 7] (by decide) rfl))
      ·
       rintro _ _ ⟨gx29, gb30, rfl, rfl, h⟩
       rw [m3_quirlaw_TreePlays_K5] at h
       rcases gb30 with _ | _
       ·
        replace h := iteF h
        refine W.seq (W.region (L.y rfl (Y.move rfl) ?_))
        refine L.y rfl (Y.fieldP fd28_1 rfl) ?_
        refine L.y rfl (Y.loadP (i := 2) ag3 rfl rfl rfl) ?_
        obtain ⟨s38, x39, e40, h⟩ := bind2S h
        refine L.doesP (A := [ar46 gP46 gq15 gl14 [], ar48 gP46 gP48 gq17 gl16 []]) (M := [.obj b37 [.int .i64 x36.Kind, .int .i64 x36.Key, st x36.Text] 28, .obj b12 [.map (some b11)] 26, .mp b11 (mrow st gl18), .obj b10 [gv19] 25, .obj b1 [.bool false] 4, .sl gv19 3 1 (gl20.map I)]) rfl en6 rfl (fun w' hw => w6_tree_Tree_Get x4 x36.Key gl14 gl16 gP46 gP48 gq15 gq17 w' _ e40 _ hw.lend) ?_
        rintro _ _ ⟨rfl, rfl⟩
        refine L.to (D := Cls w [] [ar46 gP46 gq15 gl14 [], ar48 gP46 gP48 gq17 gl16 [], .obj b37 [.int .i64 x36.Kind, .int .i64 x36.Key, st x36.Text] 28, .obj b12 [.map (some b11)] 26, .mp b11 (mrow st gl18), .obj b10 [gv19] 25, .obj b1 [.bool false] 4, .sl gv19 3 1 (gl20.map I)]) (fun _ hw => hw) ?_
        refine L.y rfl (Y.move rfl) ?_
        refine L.y rfl (Y.extract rfl rfl) ?_
        refine L.y rfl (Y.extract rfl rfl) ?_
        refine L.y rfl (Y.assign rfl) ?_
        refine L.y rfl (Y.assign rfl) ?_
        refine L.nil (E.thenN (W.seqJ (fun gs D => gs = [(1, .int .i64 a1), (4, pt b1 0), (5, VP gP48 x4), (6, pt b10 0), (7, pt b12 0), (9, pt b37 0), (10, .int .i64 gx29), (11, .bool false), (22, u0), (23, .int .i64 (a0.length : Int)), (24, .int .i64 gx12)] ∧ D = Cls w [] [ar46 gP46 gq15 gl14 [], ar48 gP46 gP48 gq17 gl16 [], .obj b37 [.int .i64 x36.Kind, .int .i64 x36.Key, st x36.Text] 28, .obj b12 [.map (some b11)] 26, .mp b11 (mrow st gl18), .obj b10 [gv19] 25, .obj b1 [.bool false] 4, .sl gv19 3 1 (gl20.map I)] ∧ m3_quirlaw_TreePlays_K6 x36 x4 gl14 gl16 gx12 go2 gl18 gl20 gx29 = some r) ?_ ?_))
        ·
         refine W.seq (W.region (L.cutJ 23 (fun gs D => ∃ (gb31 : Bool), gs = [(1, .int .i64 a1), (4, pt b1 0), (5, VP gP48 x4), (6, pt b10 0), (7, pt b12 0), (9, pt b37 0), (10, .int .i64 gx29), (11, .bool false), (22, u0), (23, .int .i64 (a0.length : Int)), (24, .int .i64 gx12), (55, .bool false), (58, .bool true), (64, .bool gb31)] ∧ D = Cls w [] [ar46 gP46 gq15 gl14 [], ar48 gP46 gP48 gq17 gl16 [], .obj b37 [.int .i64 x36.Kind, .int .i64 x36.Key, st x36.Text] 28, .obj b12 [.map (some b11)] 26, .mp b11 (mrow st gl18), .obj b10 [gv19] 25, .obj b1 [.bool false] 4, .sl gv19 3 1 (gl20.map I)] ∧ m3_quirlaw_TreePlays_K10 x36 x4 gl14 gl16 gx12 go2 gl18 gl20 gx29 gb31 = some r) ?_ ?_))
         ·
          refine L.y rfl (Y.move rfl) ?_
          refine L.y rfl (Y.move rfl) ?_
          refine L.pass rfl rfl (by nofun) ?_
          refine L.pass rfl rfl (by nofun) ?_
          refine L.pass rfl rfl (by nofun) ?_
          refine L.pass rfl rfl (by nofun) ?_
          refine L.pass rfl rfl (by nofun) ?_
          refine L.pass rfl rfl (by nofun) ?_
          refine L.pass rfl rfl (by nofun) ?_
          refine L.pass rfl rfl (by nofun) ?_
          refine L.pass rfl rfl (by nofun) ?_
          refine L.pass rfl rfl (by nofun) ?_
          refine L.y rfl (Y.pickF rfl rfl) ?_
          refine L.y rfl (Y.move rfl) ?_
          refine L.take rfl (L.y rfl (Y.move rfl) ?_)
          refine L.take rfl (L.y rfl (Y.not rfl) ?_)
          refine L.take rfl (L.y rfl (Y.move rfl) ?_)
          refine L.take rfl (L.y rfl (Y.move rfl) ?_)
          refine L.take rfl (L.ite h rfl (Y.neqS rfl rfl) (fun c65 h => ?_) (fun c65 h => ?_))
          ·
           refine L.take rfl (L.y rfl (Y.move rfl) ?_)
           refine L.pass rfl rfl (by nofun) ?_
           refine L.pass rfl rfl (by nofun) ?_
           refine L.take rfl (L.y rfl (Y.pickT rfl rfl) ?_)
           exact L.nil (E.joinJ ⟨true, rfl, rfl, h⟩ ⟨rfl, rfl, rfl, rfl, rfl, rfl, rfl, rfl, rfl, rfl, rfl, rfl, rfl, rfl, trivial⟩ (fun _ hw => hw))
          ·
           refine L.take rfl (L.y rfl (Y.move rfl) ?_)
           refine L.take rfl (L.y rfl (Y.move rfl) ?_)
           refine L.take rfl (L.ite h rfl (Y.neq rfl rfl) (fun c66 h => ?_) (fun c66 h => ?_))
           ·
            refine L.take rfl (L.y rfl (Y.pickF rfl rfl) ?_)
            exact L.nil (E.joinJ ⟨true, rfl, rfl, h⟩ ⟨rfl, rfl, rfl, rfl, rfl, rfl, rfl, rfl, rfl, rfl, rfl, rfl, rfl, rfl, trivial⟩ (fun _ hw => hw))
           ·
            refine L.take rfl (L.y rfl (Y.pickF rfl rfl) ?_)
            exact L.nil (E.joinJ ⟨false, rfl, rfl, h⟩ ⟨rfl, rfl, rfl, rfl, rfl, rfl, rfl, rfl, rfl, rfl, rfl, rfl, rfl, rfl, trivial⟩ (fun _ hw => hw))
         ·
          rintro _ _ ⟨gb31, rfl, rfl, h⟩
          rw [m3_quirlaw_TreePlays_K10] at h
          rcases gb31 with _ | _
          ·
           replace h := iteF h
           refine L.take rfl (L.y rfl (Y.pickT rfl rfl) ?_)
           refine L.y rfl (Y.pickF rfl rfl) ?_
           refine L.nil (E.thenN (W.condF rfl ?_))
           exact W.skip (E.joinJ ⟨rfl, rfl, h⟩ ⟨rfl, rfl, rfl, rfl, rfl, rfl, rfl, rfl, rfl, rfl, rfl, trivial⟩ (fun _ hw => hw))
          ·
           replace h := iteT h
           refine L.take rfl (L.y rfl (Y.pickT rfl rfl) ?_)
           refine L.y rfl (Y.pickF rfl rfl) ?_
           refine L.nil (E.thenN (W.condT rfl ?_))
           refine W.seq (W.region (L.store (i := 6) (vs := [.bool false]) sz4 rfl rfl rfl rfl (by simp [Value.oneCell', Value.cells, st, pt, el]) rfl (Nat.le_of_ble_eq_true rfl) ?_))
           refine L.nil (E.thenN (W.ret (E.KSR (E.blockR (E.KSR (E.KLR (E.blockR (E.KSR (E.toM (E.retR1 rfl (Rv.cell1 (i := 6) ag4 rfl rfl) (fun w1 hw => ?_)))))))))))
           obtain rfl := Option.some.inj h
           exact ⟨_, _, rfl, ⟨rfl, rfl⟩, hw.sel [] (by decide) rfl⟩
        ·
         rintro _ _ ⟨rfl, rfl, h⟩
         rw [m3_quirlaw_TreePlays_K6] at h
         refine W.seqJ (fun gs D => gs = [(1, .int .i64 a1), (4, pt b1 0), (5, VP gP48 x4), (6, pt b10 0), (7, pt b12 0), (9, pt b37 0), (10, .int .i64 gx29), (11, .bool false), (22, u0), (23, .int .i64 (a0.length : Int)), (24, .int .i64 gx12)] ∧ D = Cls w [] [ar46 gP46 gq15 gl14 [], ar48 gP46 gP48 gq17 gl16 [], .obj b37 [.int .i64 x36.Kind, .int .i64 x36.Key, st x36.Text] 28, .obj b12 [.map (some b11)] 26, .mp b11 (mrow st gl18), .obj b10 [gv19] 25, .obj b1 [.bool false] 4, .sl gv19 3 1 (gl20.map I)] ∧ m3_quirlaw_TreePlays_K7 x4 x36 gl14 gl16 gl20 gx12 go2 gl18 gx29 = some r) ?_ ?_
         ·
          refine W.seq (W.region (L.y rfl (Y.fieldP fd28_0 rfl) ?_))
          refine L.y rfl (Y.loadP (i := 2) ag3 rfl rfl rfl) ?_
          refine L.m (V := fun x55 => .int .i64 x55) h rfl (Y.remM rfl rfl) (fun x55 ex55 h => ?_)
          refine L.ite h rfl (Y.eql rfl rfl) (fun c56 h => ?_) (fun c56 h => ?_)
          ·
           refine L.nil (E.thenN (W.condT rfl ?_))
           refine W.seq (W.region (L.y rfl (Y.move rfl) ?_))
           refine L.y rfl (Y.fieldP fd28_1 rfl) ?_
           refine L.y rfl (Y.loadP (i := 2) ag3 rfl rfl rfl) ?_
           obtain ⟨l57, l58, x59, e60, h⟩ := bind3S h
           refine L.doesP (A := [ar46 gP46 gq15 gl14 [], ar48 gP46 gP48 gq17 gl16 []]) (M := [.obj b37 [.int .i64 x36.Kind, .int .i64 x36.Key, st x36.Text] 28, .obj b12 [.map (some b11)] 26, .mp b11 (mrow st gl18), .obj b10 [gv19] 25, .obj b1 [.bool false] 4, .sl gv19 3 1 (gl20.map I)]) rfl en7 rfl (fun w' hw => w7_tree_Tree_Drop x4 x36.Key gl14 gl16 gP46 gP48 gq15 gq17 w' _ e60 _ hw.lend) ?_
           rintro _ _ ⟨q61, q62, rfl, rfl⟩
           refine L.to (D := Cls w [] [ar46 gP46 q61 l57 [], ar48 gP46 gP48 q62 l58 [], .obj b37 [.int .i64 x36.Kind, .int .i64 x36.Key, st x36.Text] 28, .obj b12 [.map (some b11)] 26, .mp b11 (mrow st gl18), .obj b10 [gv19] 25, .obj b1 [.bool false] 4, .sl gv19 3 1 (gl20.map I)]) (fun _ hw => hw) ?_
           refine L.y rfl (Y.assign rfl) ?_
           refine L.nil (E.thenN (W.seq (W.seq (W.region (L.y rfl (Y.move rfl) ?_)))))
           refine L.y rfl (Y.move rfl) ?_
           refine L.y rfl (Y.eql rfl rfl) ?_
           refine L.iteB h rfl (Y.neqB Try.underlying4 rfl rfl) (fun c63 h => ?_) (fun c63 h => ?_)
           ·
            refine L.y rfl (Y.move rfl) ?_
            refine L.pass rfl rfl (by nofun) ?_
            refine L.pass rfl rfl (by nofun) ?_
            refine L.pass rfl rfl (by nofun) ?_
            refine L.pass rfl rfl (by nofun) ?_
            refine L.pass rfl rfl (by nofun) ?_
            refine L.pass rfl rfl (by nofun) ?_
            refine L.y rfl (Y.pickT rfl rfl) ?_
            refine L.nil (E.thenN (W.condT rfl ?_))
            refine W.seq (W.region (L.store (i := 6) (vs := [.bool false]) sz4 rfl rfl rfl rfl (by simp [Value.oneCell', Value.cells, st, pt, el]) rfl (Nat.le_of_ble_eq_true rfl) ?_))
            refine L.nil (E.thenN (W.ret (E.thenR (E.KSR (E.blockR (E.KSR (E.KLR (E.blockR (E.KSR (E.toM (E.retR1 rfl (Rv.cell1 (i := 6) ag4 rfl rfl) (fun w1 hw => ?_))))))))))))
            obtain rfl := Option.some.inj h
            exact ⟨_, _, rfl, ⟨rfl, rfl⟩, hw.sel [] (by decide) rfl⟩
           ·
            refine L.y rfl (Y.move rfl) ?_
            refine L.take rfl (L.y rfl (Y.move rfl) ?_)
            refine L.take rfl (L.y rfl (Y.not rfl) ?_)
            refine L.take rfl (L.y rfl (Y.move rfl) ?_)
            refine L.take rfl (L.y rfl (Y.move rfl) ?_)
            refine L.take rfl (L.ite h rfl (Y.neq rfl rfl) (fun c64 h => ?_) (fun c64 h => ?_))
            ·
             refine L.take rfl (L.y rfl (Y.pickT rfl rfl) ?_)
             refine L.y rfl (Y.pickF rfl rfl) ?_
             refine L.nil (E.thenN (W.condT rfl ?_))
             refine W.seq (W.region (L.store (i := 6) (vs := [.bool false]) sz4 rfl rfl rfl rfl (by simp [Value.oneCell', Value.cells, st, pt, el]) rfl (Nat.le_of_ble_eq_true rfl) ?_))
             refine L.nil (E.thenN (W.ret (E.thenR (E.KSR (E.blockR (E.KSR (E.KLR (E.blockR (E.KSR (E.toM (E.retR1 rfl (Rv.cell1 (i := 6) ag4 rfl rfl) (fun w1 hw => ?_))))))))))))
             obtain rfl := Option.some.inj h
             exact ⟨_, _, rfl, ⟨rfl, rfl⟩, hw.sel [] (by decide) rfl⟩
            ·
             refine L.take rfl (L.y rfl (Y.pickT rfl rfl) ?_)
             refine L.y rfl (Y.pickF rfl rfl) ?_
             refine L.nil (E.thenN (W.condF rfl ?_))
             refine W.skip (E.thenN (W.seq (W.seq (W.region (L.y rfl (Y.move rfl) ?_)))))
             refine L.nil (E.thenN (W.condF rfl ?_))
             exact W.skip (E.thenN (W.exit (E.KSX (E.blockX (E.joinJ ⟨gP46, l57, q61, l58, q62, gl18, gv19, gl20, rfl, rfl, h⟩ ⟨rfl, rfl, rfl, rfl, rfl, rfl, rfl, rfl, trivial⟩ (fun _ hw => hw.sel [0, 1, 3, 4, 5, 6, 7] (by decide) rfl))))))
          ·
           refine L.nil (E.thenN (W.condF rfl ?_))
           exact W.skip (E.joinJ ⟨rfl, rfl, h⟩ ⟨rfl, rfl, rfl, rfl, rfl, rfl, rfl, rfl, rfl, rfl, rfl, trivial⟩ (fun _ hw => hw))
         ·
          rintro _ _ ⟨rfl, rfl, h⟩
          rw [m3_quirlaw_TreePlays_K7] at h
          refine W.seq (W.region (L.y rfl (Y.move rfl) ?_))
          refine L.y rfl (Y.fieldP fd28_1 rfl) ?_
          refine L.y rfl (Y.loadP (i := 2) ag3 rfl rfl rfl) ?_
          refine L.y rfl (Y.fieldP fd28_2 rfl) ?_
          refine L.y rfl (Y.loadP (i := 2) ag9 rfl rfl rfl) ?_
          obtain ⟨l41, l42, x43, e44, h⟩ := bind3S h
          refine L.doesP (A := [ar46 gP46 gq15 gl14 [], ar48 gP46 gP48 gq17 gl16 []]) (M := [.obj b37 [.int .i64 x36.Kind, .int .i64 x36.Key, st x36.Text] 28, .obj b12 [.map (some b11)] 26, .mp b11 (mrow st gl18), .obj b10 [gv19] 25, .obj b1 [.bool false] 4, .sl gv19 3 1 (gl20.map I)]) rfl en9 rfl (fun w' hw => w9_tree_Tree_Put x4 x36.Key x36.Text gl14 gl16 gP46 gP48 gq15 gq17 w' _ e44 _ hw.lend) ?_
          rintro _ _ ⟨gP46, q45, q46, hg47, rfl, rfl⟩
          refine L.to (D := Cls w [] [ar46 gP46 q45 l41 [], ar48 gP46 gP48 q46 l42 [], .obj b37 [.int .i64 x36.Kind, .int .i64 x36.Key, st x36.Text] 28, .obj b12 [.map (some b11)] 26, .mp b11 (mrow st gl18), .obj b10 [gv19] 25, .obj b1 [.bool false] 4, .sl gv19 3 1 (gl20.map I)]) (fun _ hw => hw) ?_
          refine L.y rfl (Y.assign rfl) ?_
          refine L.nil (E.thenN (W.seqJ (fun gs D => gs = [(1, .int .i64 a1), (4, pt b1 0), (5, VP gP48 x4), (6, pt b10 0), (7, pt b12 0), (9, pt b37 0), (10, .int .i64 gx29), (11, .bool false), (13, .int .i64 x43), (22, u0), (23, .int .i64 (a0.length : Int)), (24, .int .i64 gx12)] ∧ D = Cls w [] [ar46 gP46 q45 l41 [], ar48 gP46 gP48 q46 l42 [], .obj b37 [.int .i64 x36.Kind, .int .i64 x36.Key, st x36.Text] 28, .obj b12 [.map (some b11)] 26, .mp b11 (mrow st gl18), .obj b10 [gv19] 25, .obj b1 [.bool false] 4, .sl gv19 3 1 (gl20.map I)] ∧ m3_quirlaw_TreePlays_K8 x43 gl20 gx29 x36 gl18 gx12 go2 l41 l42 = some r) ?_ ?_))
          ·
           refine W.seq (W.region (L.y rfl (Y.move rfl) ?_))
           refine L.y rfl (Y.not rfl) ?_
           refine L.y rfl (Y.move rfl) ?_
           refine L.take rfl (L.y rfl (Y.loadP (i := 5) ag25 rfl rfl rfl) ?_)
           refine L.take rfl (L.y rfl (Y.lenM (g := I) (l := gl20) Try.underlying25 rfl (fun w hw => As.at_ (hw.get (i := 7) rfl))) ?_)
           refine L.take rfl (L.ite h rfl (Y.eql rfl rfl) (fun c53 h => ?_) (fun c53 h => ?_))
           ·
            refine L.y rfl (Y.pickT rfl rfl) ?_
            refine L.nil (E.thenN (W.condT rfl ?_))
            refine W.seq (W.seq (W.region (L.y rfl (Y.move rfl) ?_)))
            refine L.ite h rfl (Y.neq rfl rfl) (fun c54 h => ?_) (fun c54 h => ?_)
            ·
             refine L.nil (E.thenN (W.condT rfl ?_))
             refine W.seq (W.region (L.store (i := 6) (vs := [.bool false]) sz4 rfl rfl rfl rfl (by simp [Value.oneCell', Value.cells, st, pt, el]) rfl (Nat.le_of_ble_eq_true rfl) ?_))
             refine L.nil (E.thenN (W.ret (E.thenR (E.KSR (E.blockR (E.KSR (E.KLR (E.blockR (E.KSR (E.toM (E.retR1 rfl (Rv.cell1 (i := 6) ag4 rfl rfl) (fun w1 hw => ?_))))))))))))
             obtain rfl := Option.some.inj h
             exact ⟨_, _, rfl, ⟨rfl, rfl⟩, hw.sel [] (by decide) rfl⟩
            ·
             refine L.nil (E.thenN (W.condF rfl ?_))
             exact W.skip (E.thenN (W.exit (E.KSX (E.blockX (E.joinJ ⟨gP46, l41, q45, l42, q46, gl18, gv19, gl20, rfl, rfl, h⟩ ⟨rfl, rfl, rfl, rfl, rfl, rfl, rfl, rfl, trivial⟩ (fun _ hw => hw.sel [0, 1, 3, 4, 5, 6, 7] (by decide) rfl))))))
           ·
            refine L.y rfl (Y.pickT rfl rfl) ?_
            refine L.nil (E.thenN (W.condF rfl ?_))
            exact W.skip (E.joinJ ⟨rfl, rfl, h⟩ ⟨rfl, rfl, rfl, rfl, rfl, rfl, rfl, rfl, rfl, rfl, rfl, rfl, trivial⟩ (fun _ hw => hw))
          ·
           rintro _ _ ⟨rfl, rfl, h⟩
           rw [m3_quirlaw_TreePlays_K8] at h
           refine W.seqJ (fun gs D => gs = [(1, .int .i64 a1), (4, pt b1 0), (5, VP gP48 x4), (6, pt b10 0), (7, pt b12 0), (9, pt b37 0), (10, .int .i64 gx29), (11, .bool false), (22, u0), (23, .int .i64 (a0.length : Int)), (24, .int .i64 gx12)] ∧ D = Cls w [] [ar46 gP46 q45 l41 [], ar48 gP46 gP48 q46 l42 [], .obj b37 [.int .i64 x36.Kind, .int .i64 x36.Key, st x36.Text] 28, .obj b12 [.map (some b11)] 26, .mp b11 (mrow st gl18), .obj b10 [gv19] 25, .obj b1 [.bool false] 4, .sl gv19 3 1 (gl20.map I)] ∧ m3_quirlaw_TreePlays_K9 gl20 gx29 x36 gl18 gx12 go2 l41 l42 = some r) ?_ ?_
           ·
            refine W.seq (W.region (L.y rfl (Y.move rfl) ?_))
            refine L.ite h rfl (Y.neq rfl rfl) (fun c52 h => ?_) (fun c52 h => ?_)
            ·
             refine L.nil (E.thenN (W.condT rfl ?_))
             refine W.seq (W.region (L.store (i := 6) (vs := [.bool false]) sz4 rfl rfl rfl rfl (by simp [Value.oneCell', Value.cells, st, pt, el]) rfl (Nat.le_of_ble_eq_true rfl) ?_))
             refine L.nil (E.thenN (W.ret (E.KSR (E.blockR (E.KSR (E.KLR (E.blockR (E.KSR (E.toM (E.retR1 rfl (Rv.cell1 (i := 6) ag4 rfl rfl) (fun w1 hw => ?_)))))))))))
             obtain rfl := Option.some.inj h
             exact ⟨_, _, rfl, ⟨rfl, rfl⟩, hw.sel [] (by decide) rfl⟩
            ·
             refine L.nil (E.thenN (W.condF rfl ?_))
             exact W.skip (E.joinJ ⟨rfl, rfl, h⟩ ⟨rfl, rfl, rfl, rfl, rfl, rfl, rfl, rfl, rfl, rfl, rfl, trivial⟩ (fun _ hw => hw))
           ·
            rintro _ _ ⟨rfl, rfl, h⟩
            rw [m3_quirlaw_TreePlays_K9] at h
            refine W.seq (W.seq (W.region (L.y rfl (Y.move rfl) ?_)))
            refine L.y rfl (Y.not rfl) ?_
            refine L.nil (E.thenN (W.condT rfl ?_))
            refine W.region (L.y rfl (Y.loadP (i := 5) ag25 rfl rfl rfl) ?_)
            refine L.y rfl (Y.move rfl) ?_
            refine L.y rfl (Y.fieldP fd28_1 rfl) ?_
            refine L.y rfl (Y.loadP (i := 2) ag3 rfl rfl rfl) ?_
            refine L.litOne rfl Try.underlying25 eL3 rfl rfl ?_
            intro b48
            refine L.insRD (i := 8) (j := 0) (l := gl20) (x1 := x36.Key) (a := gx29) h wInsR10 (fun _ => rfl) rfl en10 rfl rfl rfl rfl rfl (by decide) ?_
            intro v50 l49 el49 h
            refine L.storeV (i := 6) sz25 rfl rfl (fun _ hw => (As.at_ (hw.get (i := 8) rfl)).one) rfl (Nat.le_of_ble_eq_true rfl) ?_
            refine L.nil (E.thenN (W.region (L.y rfl (Y.loadP (i := 4) ag26 rfl rfl rfl) ?_)))
            refine L.y rfl (Y.fieldP fd28_1 rfl) ?_
            refine L.y rfl (Y.loadP (i := 3) ag3 rfl rfl rfl) ?_
            refine L.y rfl (Y.fieldP fd28_2 rfl) ?_
            refine L.y rfl (Y.loadP (i := 3) ag9 rfl rfl rfl) ?_
            refine L.mapSet (i := 5) (g := st) (lm := gl18) (v0 := x36.Text) Try.underlying26 Try.underlying3 rfl rfl rfl rfl ?_
            obtain ⟨l51, el51, h⟩ := bind1S h
            obtain rfl := Option.some.inj el51
            exact L.nil (E.blockN (E.joinJ ⟨gP46, l41, q45, l42, q46, mset gl18 x36.Key x36.Text, v50, l49, rfl, rfl, h⟩ ⟨rfl, rfl, rfl, rfl, rfl, rfl, rfl, rfl, trivial⟩ (fun _ hw => hw.sel [1, 2, 4, 5, 6, 7, 8] (by decide) rfl)))
       ·
        replace h := iteT h
        refine W.seq (W.region (L.y rfl (Y.move rfl) ?_))
        refine L.y rfl (Y.fieldP fd28_1 rfl) ?_
        refine L.y rfl (Y.loadP (i := 2) ag3 rfl rfl rfl) ?_
        obtain ⟨s67, x68, e69, h⟩ := bind2S h
        refine L.doesP (A := [ar46 gP46 gq15 gl14 [], ar48 gP46 gP48 gq17 gl16 []]) (M := [.obj b37 [.int .i64 x36.Kind, .int .i64 x36.Key, st x36.Text] 28, .obj b12 [.map (some b11)] 26, .mp b11 (mrow st gl18), .obj b10 [gv19] 25, .obj b1 [.bool false] 4, .sl gv19 3 1 (gl20.map I)]) rfl en6 rfl (fun w' hw => w6_tree_Tree_Get x4 x36.Key gl14 gl16 gP46 gP48 gq15 gq17 w' _ e69 _ hw.lend) ?_
        rintro _ _ ⟨rfl, rfl⟩
        refine L.to (D := Cls w [] [ar46 gP46 gq15 gl14 [], ar48 gP46 gP48 gq17 gl16 [], .obj b37 [.int .i64 x36.Kind, .int .i64 x36.Key, st x36.Text] 28, .obj b12 [.map (some b11)] 26, .mp b11 (mrow st gl18), .obj b10 [gv19] 25, .obj b1 [.bool false] 4, .sl gv19 3 1 (gl20.map I)]) (fun _ hw => hw) ?_
        refine L.y rfl (Y.move rfl) ?_
        refine L.y rfl (Y.extract rfl rfl) ?_
        refine L.y rfl (Y.extract rfl rfl) ?_
        refine L.y rfl (Y.assign rfl) ?_
        refine L.y rfl (Y.assign rfl) ?_
        refine L.nil (E.thenN (W.seqJ (fun gs D => gs = [(1, .int .i64 a1), (4, pt b1 0), (5, VP gP48 x4), (6, pt b10 0), (7, pt b12 0), (9, pt b37 0), (10, .int .i64 gx29), (11, .bool true), (22, u0), (23, .int .i64 (a0.length : Int)), (24, .int .i64 gx12)] ∧ D = Cls w [] [ar46 gP46 gq15 gl14 [], ar48 gP46 gP48 gq17 gl16 [], .obj b37 [.int .i64 x36.Kind, .int .i64 x36.Key, st x36.Text] 28, .obj b12 [.map (some b11)] 26, .mp b11 (mrow st gl18), .obj b10 [gv19] 25, .obj b1 [.bool false] 4, .sl gv19 3 1 (gl20.map I)] ∧ m3_quirlaw_TreePlays_K11 x36 x4 gl14 gl16 gx29 gl20 gx12 go2 gl18 = some r) ?_ ?_))
        ·
         refine W.seq (W.region (L.cutJ 12 (fun gs D => ∃ (gb32 : Bool), gs = [(1, .int .i64 a1), (4, pt b1 0), (5, VP gP48 x4), (6, pt b10 0), (7, pt b12 0), (9, pt b37 0), (10, .int .i64 gx29), (11, .bool true), (12, st s67), (13, .int .i64 x68), (22, u0), (23, .int .i64 (a0.length : Int)), (24, .int .i64 gx12), (43, .bool true), (53, .bool gb32)] ∧ D = Cls w [] [ar46 gP46 gq15 gl14 [], ar48 gP46 gP48 gq17 gl16 [], .obj b37 [.int .i64 x36.Kind, .int .i64 x36.Key, st x36.Text] 28, .obj b12 [.map (some b11)] 26, .mp b11 (mrow st gl18), .obj b10 [gv19] 25, .obj b1 [.bool false] 4, .sl gv19 3 1 (gl20.map I)] ∧ m3_quirlaw_TreePlays_K13 x36 x4 gl14 gl16 gx29 gl20 gx12 go2 gl18 gb32 = some r) ?_ ?_))
         ·
          refine L.y rfl (Y.move rfl) ?_
          refine L.y rfl (Y.move rfl) ?_
          refine L.take rfl (L.y rfl (Y.move rfl) ?_)
          refine L.take rfl (L.y rfl (Y.loadP (i := 3) ag26 rfl rfl rfl) ?_)
          refine L.take rfl (L.y rfl (Y.fieldP fd28_1 rfl) ?_)
          refine L.take rfl (L.y rfl (Y.loadP (i := 2) ag3 rfl rfl rfl) ?_)
          refine L.take rfl (L.y rfl (Y.lookupM (i := 4) (g := st) (lm := gl18) (z0 := []) Try.underlying26 Try.underlying3 (by kernel_rfl) rfl rfl rfl rfl) ?_)
          refine L.take rfl (L.ite h rfl (Y.neqS rfl rfl) (fun c91 h => ?_) (fun c91 h => ?_))
          ·
           refine L.take rfl (L.y rfl (Y.move rfl) ?_)
           refine L.pass rfl rfl (by nofun) ?_
           refine L.pass rfl rfl (by nofun) ?_
           refine L.take rfl (L.y rfl (Y.pickT rfl rfl) ?_)
           exact L.nil (E.joinJ ⟨true, rfl, rfl, h⟩ ⟨rfl, rfl, rfl, rfl, rfl, rfl, rfl, rfl, rfl, rfl, rfl, rfl, rfl, rfl, rfl, trivial⟩ (fun _ hw => hw))
          ·
           refine L.take rfl (L.y rfl (Y.move rfl) ?_)
           refine L.take rfl (L.y rfl (Y.move rfl) ?_)
           refine L.take rfl (L.ite h rfl (Y.neq rfl rfl) (fun c92 h => ?_) (fun c92 h => ?_))
           ·
            refine L.take rfl (L.y rfl (Y.pickF rfl rfl) ?_)
            exact L.nil (E.joinJ ⟨true, rfl, rfl, h⟩ ⟨rfl, rfl, rfl, rfl, rfl, rfl, rfl, rfl, rfl, rfl, rfl, rfl, rfl, rfl, rfl, trivial⟩ (fun _ hw => hw))
           ·
            refine L.take rfl (L.y rfl (Y.pickF rfl rfl) ?_)
            exact L.nil (E.joinJ ⟨false, rfl, rfl, h⟩ ⟨rfl, rfl, rfl, rfl, rfl, rfl, rfl, rfl, rfl, rfl, rfl, rfl, rfl, rfl, rfl, trivial⟩ (fun _ hw => hw))
         ·
          rintro _ _ ⟨gb32, rfl, rfl, h⟩
          rw [m3_quirlaw_TreePlays_K13] at h
          rcases gb32 with _ | _
          ·
           replace h := iteF h
           refine L.y rfl (Y.pickT rfl rfl) ?_
           refine L.y rfl (Y.move rfl) ?_
           refine L.take rfl (L.y rfl (Y.move rfl) ?_)
           refine L.take rfl (L.y rfl (Y.not rfl) ?_)
           refine L.take rfl (L.y rfl (Y.move rfl) ?_)
           refine L.pass rfl rfl (by nofun) ?_
           refine L.pass rfl rfl (by nofun) ?_
           refine L.pass rfl rfl (by nofun) ?_
           refine L.pass rfl rfl (by nofun) ?_
           refine L.pass rfl rfl (by nofun) ?_
           refine L.pass rfl rfl (by nofun) ?_
           refine L.take rfl (L.y rfl (Y.pickF rfl rfl) ?_)
           refine L.y rfl (Y.pickF rfl rfl) ?_
           refine L.nil (E.thenN (W.condF rfl ?_))
           exact W.skip (E.joinJ ⟨rfl, rfl, h⟩ ⟨rfl, rfl, rfl, rfl, rfl, rfl, rfl, rfl, rfl, rfl, rfl, trivial⟩ (fun _ hw => hw))
          ·
           replace h := iteT h
           refine L.y rfl (Y.pickT rfl rfl) ?_
           refine L.y rfl (Y.move rfl) ?_
           refine L.pass rfl rfl (by nofun) ?_
           refine L.pass rfl rfl (by nofun) ?_
           refine L.pass rfl rfl (by nofun) ?_
           refine L.pass rfl rfl (by nofun) ?_
           refine L.pass rfl rfl (by nofun) ?_
           refine L.pass rfl rfl (by nofun) ?_
           refine L.pass rfl rfl (by nofun) ?_
           refine L.pass rfl rfl (by nofun) ?_
           refine L.pass rfl rfl (by nofun) ?_
           refine L.pass rfl rfl (by nofun) ?_
           refine L.y rfl (Y.pickT rfl rfl) ?_
           refine L.nil (E.thenN (W.condT rfl ?_))
           refine W.seq (W.region (L.store (i := 6) (vs := [.bool false]) sz4 rfl rfl rfl rfl (by simp [Value.oneCell', Value.cells, st, pt, el]) rfl (Nat.le_of_ble_eq_true rfl) ?_))
           refine L.nil (E.thenN (W.ret (E.KSR (E.blockR (E.KSR (E.KLR (E.blockR (E.KSR (E.toM (E.retR1 rfl (Rv.cell1 (i := 6) ag4 rfl rfl) (fun w1 hw => ?_)))))))))))
           obtain rfl := Option.some.inj h
           exact ⟨_, _, rfl, ⟨rfl, rfl⟩, hw.sel [] (by decide) rfl⟩
        ·
         rintro _ _ ⟨rfl, rfl, h⟩
         rw [m3_quirlaw_TreePlays_K11] at h
         refine W.seqJ (fun gs D => gs = [(1, .int .i64 a1), (4, pt b1 0), (5, VP gP48 x4), (6, pt b10 0), (7, pt b12 0), (9, pt b37 0), (10, .int .i64 gx29), (11, .bool true), (22, u0), (23, .int .i64 (a0.length : Int)), (24, .int .i64 gx12)] ∧ D = Cls w [] [ar46 gP46 gq15 gl14 [], ar48 gP46 gP48 gq17 gl16 [], .obj b37 [.int .i64 x36.Kind, .int .i64 x36.Key, st x36.Text] 28, .obj b12 [.map (some b11)] 26, .mp b11 (mrow st gl18), .obj b10 [gv19] 25, .obj b1 [.bool false] 4, .sl gv19 3 1 (gl20.map I)] ∧ m3_quirlaw_TreePlays_K12 x4 x36 gl14 gl16 gl18 gx12 go2 gl20 = some r) ?_ ?_
         ·
          refine W.seq (W.region (L.y rfl (Y.fieldP fd28_0 rfl) ?_))
          refine L.y rfl (Y.loadP (i := 2) ag3 rfl rfl rfl) ?_
          refine L.m (V := fun x79 => .int .i64 x79) h rfl (Y.remM rfl rfl) (fun x79 ex79 h => ?_)
          refine L.ite h rfl (Y.eql rfl rfl) (fun c80 h => ?_) (fun c80 h => ?_)
          ·
           refine L.nil (E.thenN (W.condT rfl ?_))
           refine W.seq (W.region (L.y rfl (Y.move rfl) ?_))
           refine L.y rfl (Y.fieldP fd28_1 rfl) ?_
           refine L.y rfl (Y.loadP (i := 2) ag3 rfl rfl rfl) ?_
           obtain ⟨l81, l82, x83, e84, h⟩ := bind3S h
           refine L.doesP (A := [ar46 gP46 gq15 gl14 [], ar48 gP46 gP48 gq17 gl16 []]) (M := [.obj b37 [.int .i64 x36.Kind, .int .i64 x36.Key, st x36.Text] 28, .obj b12 [.map (some b11)] 26, .mp b11 (mrow st gl18), .obj b10 [gv19] 25, .obj b1 [.bool false] 4, .sl gv19 3 1 (gl20.map I)]) rfl en7 rfl (fun w' hw => w7_tree_Tree_Drop x4 x36.Key gl14 gl16 gP46 gP48 gq15 gq17 w' _ e84 _ hw.lend) ?_
           rintro _ _ ⟨q85, q86, rfl, rfl⟩
           refine L.to (D := Cls w [] [ar46 gP46 q85 l81 [], ar48 gP46 gP48 q86 l82 [], .obj b37 [.int .i64 x36.Kind, .int .i64 x36.Key, st x36.Text] 28, .obj b12 [.map (some b11)] 26, .mp b11 (mrow st gl18), .obj b10 [gv19] 25, .obj b1 [.bool false] 4, .sl gv19 3 1 (gl20.map I)]) (fun _ hw => hw) ?_
           refine L.y rfl (Y.assign rfl) ?_
           refine L.nil (E.thenN (W.seq (W.seq (W.region (L.y rfl (Y.move rfl) ?_)))))
           refine L.y rfl (Y.move rfl) ?_
           refine L.y rfl (Y.eql rfl rfl) ?_
           refine L.iteB h rfl (Y.neqB Try.underlying4 rfl rfl) (fun c87 h => ?_) (fun c87 h => ?_)
           ·
            refine L.y rfl (Y.move rfl) ?_
            refine L.pass rfl rfl (by nofun) ?_
            refine L.pass rfl rfl (by nofun) ?_
            refine L.pass rfl rfl (by nofun) ?_
            refine L.pass rfl rfl (by nofun) ?_
            refine L.pass rfl rfl (by nofun) ?_
            refine L.pass rfl rfl (by nofun) ?_
            refine L.y rfl (Y.pickT rfl rfl) ?_
            refine L.nil (E.thenN (W.condT rfl ?_))
            refine W.seq (W.region (L.store (i := 6) (vs := [.bool false]) sz4 rfl rfl rfl rfl (by simp [Value.oneCell', Value.cells, st, pt, el]) rfl (Nat.le_of_ble_eq_true rfl) ?_))
            refine L.nil (E.thenN (W.ret (E.thenR (E.KSR (E.blockR (E.KSR (E.KLR (E.blockR (E.KSR (E.toM (E.retR1 rfl (Rv.cell1 (i := 6) ag4 rfl rfl) (fun w1 hw => ?_))))))))))))
            obtain rfl := Option.some.inj h
            exact ⟨_, _, rfl, ⟨rfl, rfl⟩, hw.sel [] (by decide) rfl⟩
           ·
            refine L.y rfl (Y.move rfl) ?_
            refine L.take rfl (L.y rfl (Y.move rfl) ?_)
            refine L.take rfl (L.y rfl (Y.not rfl) ?_)
            refine L.take rfl (L.y rfl (Y.move rfl) ?_)
            refine L.pass rfl rfl (by nofun) ?_
            refine L.pass rfl rfl (by nofun) ?_
            refine L.take rfl (L.y rfl (Y.pickF rfl rfl) ?_)
            refine L.y rfl (Y.pickF rfl rfl) ?_
            refine L.nil (E.thenN (W.condF rfl ?_))
            refine W.skip (E.thenN (W.seq (W.seq (W.region (L.y rfl (Y.move rfl) ?_)))))
            refine L.nil (E.thenN (W.condT rfl ?_))
            refine W.region (L.y rfl (Y.loadP (i := 5) ag25 rfl rfl rfl) ?_)
            refine L.y rfl (Y.move rfl) ?_
            refine L.y rfl (Y.move rfl) ?_
            refine L.m (V := fun x88 => .int .i64 x88) h rfl (Y.addM rfl rfl) (fun x88 ex88 h => ?_)
            refine L.delRD (i := 7) (l := gl20) (a := gx29) (b := x88) h wDelR8 rfl en8 rfl rfl rfl rfl ?_
            intro v90 l89 el89 h
            refine L.storeV (i := 5) sz25 rfl rfl (fun _ hw => (As.at_ (hw.get (i := 7) rfl)).one) rfl (Nat.le_of_ble_eq_true rfl) ?_
            exact L.nil (E.thenN (W.exit (E.KSX (E.blockX (E.joinJ ⟨gP46, l81, q85, l82, q86, gl18, v90, l89, rfl, rfl, h⟩ ⟨rfl, rfl, rfl, rfl, rfl, rfl, rfl, rfl, trivial⟩ (fun _ hw => hw.sel [0, 1, 3, 4, 5, 6, 7] (by decide) rfl))))))
          ·
           refine L.nil (E.thenN (W.condF rfl ?_))
           exact W.skip (E.joinJ ⟨rfl, rfl, h⟩ ⟨rfl, rfl, rfl, rfl, rfl, rfl, rfl, rfl, rfl, rfl, rfl, trivial⟩ (fun _ hw => hw))
         ·
          rintro _ _ ⟨rfl, rfl, h⟩
          rw [m3_quirlaw_TreePlays_K12] at h
          refine W.seq (W.region (L.y rfl (Y.move rfl) ?_))
          refine L.y rfl (Y.fieldP fd28_1 rfl) ?_
          refine L.y rfl (Y.loadP (i := 2) ag3 rfl rfl rfl) ?_
          refine L.y rfl (Y.fieldP fd28_2 rfl) ?_
          refine L.y rfl (Y.loadP (i := 2) ag9 rfl rfl rfl) ?_
          obtain ⟨l70, l71, x72, e73, h⟩ := bind3S h
          refine L.doesP (A := [ar46 gP46 gq15 gl14 [], ar48 gP46 gP48 gq17 gl16 []]) (M := [.obj b37 [.int .i64 x36.Kind, .int .i64 x36.Key, st x36.Text] 28, .obj b12 [.map (some b11)] 26, .mp b11 (mrow st gl18), .obj b10 [gv19] 25, .obj b1 [.bool false] 4, .sl gv19 3 1 (gl20.map I)]) rfl en9 rfl (fun w' hw => w9_tree_Tree_Put x4 x36.Key x36.Text gl14 gl16 gP46 gP48 gq15 gq17 w' _ e73 _ hw.lend) ?_
          rintro _ _ ⟨gP46, q74, q75, hg76, rfl, rfl⟩
          refine L.to (D := Cls w [] [ar46 gP46 q74 l70 [], ar48 gP46 gP48 q75 l71 [], .obj b37 [.int .i64 x36.Kind, .int .i64 x36.Key, st x36.Text] 28, .obj b12 [.map (some b11)] 26, .mp b11 (mrow st gl18), .obj b10 [gv19] 25, .obj b1 [.bool false] 4, .sl gv19 3 1 (gl20.map I)]) (fun _ hw => hw) ?_
          refine L.y rfl (Y.assign rfl) ?_
          refine L.nil (E.thenN (W.seq (W.seq (W.region (L.y rfl (Y.move rfl) ?_)))))
          refine L.y rfl (Y.not rfl) ?_
          refine L.y rfl (Y.move rfl) ?_
          refine L.pass rfl rfl (by nofun) ?_
          refine L.pass rfl rfl (by nofun) ?_
          refine L.pass rfl rfl (by nofun) ?_
          refine L.y rfl (Y.pickF rfl rfl) ?_
          refine L.nil (E.thenN (W.condF rfl ?_))
          refine W.skip (E.thenN (W.seq (W.seq (W.region (L.y rfl (Y.move rfl) ?_)))))
          refine L.ite h rfl (Y.neq rfl rfl) (fun c77 h => ?_) (fun c77 h => ?_)
          ·
           refine L.nil (E.thenN (W.condT rfl ?_))
           refine W.seq (W.region (L.store (i := 6) (vs := [.bool false]) sz4 rfl rfl rfl rfl (by simp [Value.oneCell', Value.cells, st, pt, el]) rfl (Nat.le_of_ble_eq_true rfl) ?_))
           refine L.nil (E.thenN (W.ret (E.thenR (E.blockR (E.KSR (E.KLR (E.blockR (E.KSR (E.toM (E.retR1 rfl (Rv.cell1 (i := 6) ag4 rfl rfl) (fun w1 hw => ?_)))))))))))
           obtain rfl := Option.some.inj h
           exact ⟨_, _, rfl, ⟨rfl, rfl⟩, hw.sel [] (by decide) rfl⟩
          ·
           refine L.nil (E.thenN (W.condF rfl ?_))
           refine W.skip (E.thenN (W.seq (W.seq (W.region (L.y rfl (Y.move rfl) ?_)))))
           refine L.y rfl (Y.not rfl) ?_
           refine L.nil (E.thenN (W.condF rfl ?_))
           refine W.skip (E.thenN (W.region (L.y rfl (Y.loadP (i := 3) ag26 rfl rfl rfl) ?_)))
           refine L.y rfl (Y.fieldP fd28_1 rfl) ?_
           refine L.y rfl (Y.loadP (i := 2) ag3 rfl rfl rfl) ?_
           refine L.y rfl (Y.fieldP fd28_2 rfl) ?_
           refine L.y rfl (Y.loadP (i := 2) ag9 rfl rfl rfl) ?_
           refine L.mapSet (i := 4) (g := st) (lm := gl18) (v0 := x36.Text) Try.underlying26 Try.underlying3 rfl rfl rfl rfl ?_
           obtain ⟨l78, el78, h⟩ := bind1S h
           obtain rfl := Option.some.inj el78
           exact L.nil (E.blockN (E.joinJ ⟨gP46, l70, q74, l71, q75, mset gl18 x36.Key x36.Text, gv19, gl20, rfl, rfl, h⟩ ⟨rfl, rfl, rfl, rfl, rfl, rfl, rfl, rfl, trivial⟩ (fun _ hw => hw.sel [0, 1, 3, 4, 5, 6, 7] (by decide) rfl)))
     ·
      rintro _ _ ⟨gP46, gl22, gq23, gl24, gq25, gl26, gv27, gl28, rfl, rfl, h⟩
      rw [m3_quirlaw_TreePlays_K4] at h
      refine W.region (L.m (V := fun x35 => .int .i64 x35) h rfl (Y.addM rfl rfl) (fun x35 ex35 h => ?_))
      refine L.y rfl (Y.move rfl) ?_
      exact L.nil (E.againJ ⟨x35, gP46, gl22, gq23, gl24, gq25, gl26, gv27, gl28, rfl, rfl, by rw [hg2]; exact h⟩ (Nat.lt_succ_self _) ⟨rfl, rfl, rfl, rfl, rfl, rfl, rfl, rfl, trivial⟩ (fun _ hw => hw))
    ·
     refine L.nil (E.thenN (W.seq (W.condF rfl ?_)))
     exact W.exit (E.thenX (E.KLX (E.blockX (E.joinJ ⟨gP46, gl14, gq15, gl16, gq17, gl18, gv19, gl20, rfl, rfl, h⟩ ⟨rfl, rfl, rfl, rfl, rfl, trivial⟩ (fun _ hw => hw)))))
   ·
    rintro _ _ ⟨gP46, gl2, gq3, gl4, gq5, gl6, gv7, gl8, rfl, rfl, h⟩
    rw [m3_quirlaw_TreePlays_K2] at h
    refine W.seq (W.region (L.y rfl (Y.loadP (i := 4) ag25 rfl rfl rfl) ?_))
    refine L.y rfl (Y.move rfl) ?_
    obtain ⟨x13, b14, e15, h⟩ := bind2S h
    refine L.y rfl (Y.does en5 rfl (fun w' hw => (w5_slices_BinarySearch_int gl8 a1 gv7 w' _ e15 (As.at_ (hw.get (i := 6) rfl))).mono (fun _ _ h => h.1))) ?_
    refine L.y rfl (Y.move rfl) ?_
    refine L.y rfl (Y.extract rfl rfl) ?_
    refine L.y rfl (Y.extract rfl rfl) ?_
    refine L.alloc rfl ze3 ?_
    intro b16
    refine L.store (i := 0) (vs := [.int .i64 x13]) sz3 rfl rfl rfl rfl (by simp [Value.oneCell', Value.cells, st, pt, el]) rfl (Nat.le_of_ble_eq_true rfl) ?_
    refine L.y rfl (Y.assign rfl) ?_
    refine L.nil (E.thenN (W.seq (W.seq (W.region (L.y rfl (Y.move rfl) ?_)))))
    refine L.y rfl (Y.move rfl) ?_
    refine L.callJ (fun v D => ∃ (gb9 : Nat) (gb10 : Nat), v = .func (.func 21) #[] #[pt gb9 0, pt gb10 0] ∧ D = Cls w [] [ar46 gP46 gq3 gl2 [], ar48 gP46 gP48 gq5 gl4 [], .obj b16 [.int .i64 x13] 3, .obj b12 [.map (some b11)] 26, .mp b11 (mrow st gl6), .obj b10 [gv7] 25, .obj b1 [.bool false] 4, .obj gb9 [VP gP48 x4] 23, .obj gb10 [.int .i64 a1] 3, .sl gv7 3 1 (gl8.map I)] ∧ m3_quirlaw_TreePlays_K3 gl4 x4 a1 gl2 gl8 gl6 x13 = some r) rfl en11 rfl Try.func11 rfl rfl rfl ?_ ?_
    ·
     refine W.seq (W.region (L.box rfl rfl ?_))
     intro b32
     rw [show (VP gP48 x4).cells.toList = [VP gP48 x4] from by rw [VP_cells]]
     refine L.box rfl rfl ?_
     intro b33
     refine L.y rfl (Y.assign rfl) ?_
     refine L.nil (E.thenN (W.seq (W.region (L.y rfl (Y.func rfl) ?_))))
     refine L.y rfl (Y.assign rfl) ?_
     refine L.nil (E.thenN (W.ret (E.ret1 rfl rfl (fun w1 hw => ?_))))
     exact ⟨_, _, rfl, ⟨b32, b33, rfl, rfl, h⟩, hw.sel [3, 4, 2, 5, 6, 7, 8, 1, 0, 9] (by decide) rfl⟩
    ·
     rintro _ _ ⟨gb9, gb10, rfl, rfl, h⟩
     rw [m3_quirlaw_TreePlays_K3] at h
     refine L.nil (E.thenN ?_)
     obtain ⟨u18, eu18, h⟩ := bind1S h
     obtain ⟨l19, el19, h⟩ := bind1S h
     refine W.rangeI (gf := 21) (caps := [pt gb9 0, pt gb10 0]) (ev1 := fun x : (Int × (List UInt8)) => .int .i64 x.1) (ev2 := fun x => st x.2) (IA := [ar46 gP46 gq3 gl2 [], ar48 gP46 gP48 gq5 gl4 [], .obj gb9 [VP gP48 x4] 23, .obj gb10 [.int .i64 a1] 3]) (m0 := [ar46 gP46 gq3 gl2 [], ar48 gP46 gP48 gq5 gl4 [], .obj gb9 [VP gP48 x4] 23, .obj gb10 [.int .i64 a1] 3, .obj b16 [.int .i64 x13] 3, .obj b12 [.map (some b11)] 26, .mp b11 (mrow st gl6), .obj b10 [gv7] 25, .obj b1 [.bool false] 4, .sl gv7 3 1 (gl8.map I)]) (xs := l19) (fun rest m => ∃ (gx11 : Int), m = [ar46 gP46 gq3 gl2 [], ar48 gP46 gP48 gq5 gl4 [], .obj gb9 [VP gP48 x4] 23, .obj gb10 [.int .i64 a1] 3, .obj b16 [.int .i64 gx11] 3, .obj b12 [.map (some b11)] 26, .mp b11 (mrow st gl6), .obj b10 [gv7] 25, .obj b1 [.bool false] 4, .sl gv7 3 1 (gl8.map I)] ∧ m3_quirlaw_TreePlays_R1 gl8 gl6 x4 gl4 rest gx11 = some r) (fun x17 rest gs m => ∃ (gx11 : Int), gs = [(4, pt b1 0), (6, pt b10 0), (7, pt b12 0), (14, pt b16 0), (16, .int .i64 x17.1), (17, st x17.2)] ∧ m = [ar46 gP46 gq3 gl2 [], ar48 gP46 gP48 gq5 gl4 [], .obj gb9 [VP gP48 x4] 23, .obj gb10 [.int .i64 a1] 3, .obj b16 [.int .i64 gx11] 3, .obj b12 [.map (some b11)] 26, .mp b11 (mrow st gl6), .obj b10 [gv7] 25, .obj b1 [.bool false] 4, .sl gv7 3 1 (gl8.map I)] ∧ m3_quirlaw_TreePlays_R1 gl8 gl6 x4 gl4 (x17 :: rest) gx11 = some r) hz rfl en21 rfl rfl (fun _ hw => hw.sel [0, 1, 7, 8, 2, 3, 4, 5, 6, 9] (by decide) rfl) ⟨x13, rfl, h⟩ (wFrom eu18 el19) ?_ ?_ ?_ ?_ ?_
     ·
      rintro rest m ⟨gx11, rfl, h⟩
      exact ⟨(fk1 (fk_arn sub46) (fk1 (fk_arn sub48) (fk1 (fk_cells rfl) (fk1 (fk_cells rfl) (fk1 (fk_cells rfl) (fk1 (fk_cells rfl) (fk1 fk_mp (fk1 (fk_cells rfl) (fk1 (fk_cells rfl) (fk1 (fk_cells rfl) fk0)))))))))), [.obj b16 [.int .i64 gx11] 3, .obj b12 [.map (some b11)] 26, .mp b11 (mrow st gl6), .obj b10 [gv7] 25, .obj b1 [.bool false] 4, .sl gv7 3 1 (gl8.map I)], rfl⟩
     ·
      rintro x17 rest gs m ⟨gx11, rfl, rfl, h⟩
      exact (fk1 (fk_arn sub46) (fk1 (fk_arn sub48) (fk1 (fk_cells rfl) (fk1 (fk_cells rfl) (fk1 (fk_cells rfl) (fk1 (fk_cells rfl) (fk1 fk_mp (fk1 (fk_cells rfl) (fk1 (fk_cells rfl) (fk1 (fk_cells rfl) fk0))))))))))
     ·
      rintro l x17 rest m ⟨gx11, rfl, h⟩ wG oG
      refine G.seq ?_
      refine G.region (.round _) (by kernel_rfl) ?_
      refine L.y rfl (Y.assign rfl) ?_
      refine L.nil (E.thenG ?_)
      refine G.region (.round _) (by kernel_rfl) ?_
      refine L.y rfl (Y.assign rfl) ?_
      exact L.nil (E.assignJ ⟨gx11, rfl, rfl, h⟩ ⟨rfl, rfl, rfl, rfl, rfl, rfl, trivial⟩ (fun _ hw => hw))
     ·
      rintro l x17 rest gs m ⟨gx11, rfl, rfl, h⟩ wG oG
      rw [m3_quirlaw_TreePlays_R1] at h
      generalize hg1 : m3_quirlaw_TreePlays_R1 gl8 gl6 x4 gl4 rest = go1 at h
      rw [m3_quirlaw_TreePlays_R1B] at h
      refine G.block ?_
      refine G.seq ?_
      refine G.seq ?_
      refine G.region (.round _) (by kernel_rfl) ?_
      refine L.y rfl (Y.loadP (i := 4) ag3 rfl rfl rfl) ?_
      refine L.y rfl (Y.loadP (i := 7) ag25 rfl rfl rfl) ?_
      refine L.y rfl (Y.lenM (g := I) (l := gl8) Try.underlying25 rfl (fun w hw => As.at_ (hw.get (i := 9) rfl))) ?_
      refine L.y rfl (Y.geq rfl rfl) ?_
      refine L.y rfl (Y.move rfl) ?_
      refine L.caseB (q := 139) h rfl (fun h => ?_) (fun h => ?_)
      ·
       refine L.pass rfl rfl (by nofun) ?_
       refine L.pass rfl rfl (by nofun) ?_
       refine L.pass rfl rfl (by nofun) ?_
       refine L.pass rfl rfl (by nofun) ?_
       refine L.pass rfl rfl (by nofun) ?_
       refine L.pass rfl rfl (by nofun) ?_
       refine L.y rfl (Y.pickT rfl rfl) ?_
       refine L.y rfl (Y.move rfl) ?_
       refine L.pass rfl rfl (by nofun) ?_
       refine L.pass rfl rfl (by nofun) ?_
       refine L.pass rfl rfl (by nofun) ?_
       refine L.pass rfl rfl (by nofun) ?_
       refine L.pass rfl rfl (by nofun) ?_
       refine L.y rfl (Y.pickT rfl rfl) ?_
       refine L.nil (E.thenG ?_)
       refine G.condT rfl ?_
       refine G.seq ?_
       refine G.region (.round _) (by kernel_rfl) ?_
       refine L.store (i := 8) (vs := [.bool false]) sz4 rfl rfl rfl rfl (by simp [Value.oneCell', Value.cells, st, pt, el]) rfl (Nat.le_of_ble_eq_true rfl) ?_
       refine L.nil (E.thenG ?_)
       refine G.ret ?_
       cases h
      ·
       refine L.take rfl (L.y rfl (Y.move rfl) ?_)
       refine L.take rfl (L.y rfl (Y.loadP (i := 7) ag25 rfl rfl rfl) ?_)
       refine L.take rfl (L.y rfl (Y.loadP (i := 4) ag3 rfl rfl rfl) ?_)
       refine L.take rfl (L.m (V := fun _ => el gv7 (gx11.toNat * 1)) h rfl (Y.indexM (g := I) (l := gl8) Try.underlying25 sz3 rfl rfl (fun w hw => As.at_ (hw.get (i := 9) rfl))) (fun x20 ex20 h => ?_))
       refine L.take rfl (L.y rfl (Y.loadE1 (u := .int .i64 x20) ag3 rfl (fun w hw => As.at_ (hw.get (i := 9) rfl)) (idx_map ex20)) ?_)
       refine L.take rfl (L.y rfl (Y.neq rfl rfl) ?_)
       refine L.y rfl (Y.pickF rfl rfl) ?_
       refine L.y rfl (Y.move rfl) ?_
       refine L.caseB (q := 147) h rfl (fun h => ?_) (fun h => ?_)
       ·
        refine L.pass rfl rfl (by nofun) ?_
        refine L.pass rfl rfl (by nofun) ?_
        refine L.pass rfl rfl (by nofun) ?_
        refine L.pass rfl rfl (by nofun) ?_
        refine L.pass rfl rfl (by nofun) ?_
        refine L.y rfl (Y.pickT rfl rfl) ?_
        refine L.nil (E.thenG ?_)
        refine G.condT rfl ?_
        refine G.seq ?_
        refine G.region (.round _) (by kernel_rfl) ?_
        refine L.store (i := 8) (vs := [.bool false]) sz4 rfl rfl rfl rfl (by simp [Value.oneCell', Value.cells, st, pt, el]) rfl (Nat.le_of_ble_eq_true rfl) ?_
        refine L.nil (E.thenG ?_)
        refine G.ret ?_
        cases h
       ·
        refine L.take rfl (L.y rfl (Y.move rfl) ?_)
        refine L.take rfl (L.y rfl (Y.loadP (i := 5) ag26 rfl rfl rfl) ?_)
        refine L.take rfl (L.y rfl (Y.move rfl) ?_)
        refine L.take rfl (L.y rfl (Y.lookupM (i := 6) (g := st) (lm := gl6) (z0 := []) Try.underlying26 Try.underlying3 (by kernel_rfl) rfl rfl rfl rfl) ?_)
        refine L.take rfl (L.y rfl (Y.neqS rfl rfl) ?_)
        refine L.y rfl (Y.pickF rfl rfl) ?_
        refine L.nil (E.thenG ?_)
        refine G.caseB (q := 153) h rfl (fun h => ?_) (fun h => ?_)
        ·
         refine G.condT rfl ?_
         refine G.seq ?_
         refine G.region (.round _) (by kernel_rfl) ?_
         refine L.store (i := 8) (vs := [.bool false]) sz4 rfl rfl rfl rfl (by simp [Value.oneCell', Value.cells, st, pt, el]) rfl (Nat.le_of_ble_eq_true rfl) ?_
         refine L.nil (E.thenG ?_)
         refine G.ret ?_
         cases h
        ·
         refine G.condF rfl ?_
         refine G.skip ?_
         refine E.thenG ?_
         refine G.region (.round _) (by kernel_rfl) ?_
         refine L.y rfl (Y.loadP (i := 4) ag3 rfl rfl rfl) ?_
         refine L.m (V := fun x21 => .int .i64 x21) h rfl (Y.addM rfl rfl) (fun x21 ex21 h => ?_)
         refine L.store (i := 4) (vs := [.int .i64 x21]) sz3 rfl rfl rfl rfl (by simp [Value.oneCell', Value.cells, st, pt, el]) rfl (Nat.le_of_ble_eq_true rfl) ?_
         exact L.nil (E.blockN (E.roundJ ⟨x21, rfl, by rw [hg1]; exact h⟩ (fun _ hw => hw)))
     ·
      rintro D m ⟨gx11, rfl, h⟩ wG oG hD hDo
      rw [m3_quirlaw_TreePlays_R1] at h
      refine G.seq ?_
      refine G.drawn2 (k := 12) .flat (by kernel_rfl) (stC [[11]] [Cls wG oG [ar46 gP46 gq3 gl2 [], ar48 gP46 gP48 gq5 gl4 [], .obj gb9 [VP gP48 x4] 23, .obj gb10 [.int .i64 a1] 3, .obj b16 [.int .i64 gx11] 3, .obj b12 [.map (some b11)] 26, .mp b11 (mrow st gl6), .obj b10 [gv7] 25, .obj b1 [.bool false] 4, .sl gv7 3 1 (gl8.map I)]] (Cls wG oG [ar46 gP46 gq3 gl2 [], ar48 gP46 gP48 gq5 gl4 [], .obj gb9 [VP gP48 x4] 23, .obj gb10 [.int .i64 a1] 3, .obj b16 [.int .i64 gx11] 3, .obj b12 [.map (some b11)] 26, .mp b11 (mrow st gl6), .obj b10 [gv7] 25, .sl gv7 3 1 (gl8.map I)])) rfl mixed (fun _ hw => hw.drew) (Sc.now (by kernel_rfl) (fun _ hw => hw)) ?_
      refine V2.zz [] (Zc.on' (Zc.fin (fun _ hw => hw)) (fun _ hw => hw.sel [0, 1, 2, 3, 4, 5, 6, 7, 9] (by decide) rfl)) (fun hz27 => ?_)
      refine V2.y (i := 0) (Nx2.of [] (by kernel_rfl) rfl hz27) rfl rfl rfl (Y.loadP (i := 4) ag3 rfl rfl rfl) ?_
      refine V2.y (i := 1) (Nx2.of [] (by kernel_rfl) rfl hz27) rfl rfl rfl (Y.loadP (i := 7) ag25 rfl rfl rfl) ?_
      refine V2.y (i := 2) (Nx2.of [] (by kernel_rfl) rfl hz27) rfl rfl rfl (Y.lenM (g := I) (l := gl8) Try.underlying25 rfl (fun w hw => As.at_ (hw.get (i := 8) rfl))) ?_
      refine V2.ite (i := 3) h (Nx2.of [] (by kernel_rfl) rfl hz27) rfl rfl rfl (Y.eql rfl rfl) (fun c28 h => ?_) (fun c28 h => ?_)
      ·
       refine V2.y (i := 4) (Nx2.of [] (by kernel_rfl) rfl hz27) rfl rfl rfl (Y.move rfl) ?_
       refine V2.y (i := 5) (Nx2.of [] (by kernel_rfl) rfl hz27) rfl rfl rfl (Y.move rfl) ?_
       refine V2.y (i := 7) (Nx2.of [] (by kernel_rfl) rfl hz27) rfl rfl rfl (Y.loadP (i := 7) ag25 rfl rfl rfl) ?_
       refine V2.y (i := 8) (Nx2.of [] (by kernel_rfl) rfl hz27) rfl rfl rfl (Y.lenM (g := I) (l := gl8) Try.underlying25 rfl (fun w hw => As.at_ (hw.get (i := 8) rfl))) ?_
       refine V2.eff (i := 6) (by kernel_rfl) rfl ?_
       refine L.take rfl (L.to (D := Cls wG oG [ar48 gP46 gP48 gq5 gl4 [], ar46 gP46 gq3 gl2 [], .obj gb9 [VP gP48 x4] 23, .obj gb10 [.int .i64 a1] 3, .obj b16 [.int .i64 gx11] 3, .obj b12 [.map (some b11)] 26, .mp b11 (mrow st gl6), .obj b10 [gv7] 25, .obj b1 [.bool false] 4, .sl gv7 3 1 (gl8.map I)]) (fun _ hw => hw.sel [1, 0, 2, 3, 4, 5, 6, 7, 8, 9] (by decide) rfl) ?_)
       obtain ⟨x29, e30, h⟩ := bind1S h
       refine L.doesP (A := [ar48 gP46 gP48 gq5 gl4 []]) (M := [ar46 gP46 gq3 gl2 [], .obj gb9 [VP gP48 x4] 23, .obj gb10 [.int .i64 a1] 3, .obj b16 [.int .i64 gx11] 3, .obj b12 [.map (some b11)] 26, .mp b11 (mrow st gl6), .obj b10 [gv7] 25, .obj b1 [.bool false] 4, .sl gv7 3 1 (gl8.map I)]) rfl en12 rfl (fun w' hw => w12_tree_Tree_Len x4 gl4 gP46 gP48 gq5 w' _ e30 _ hw.lend) ?_
       rintro _ _ ⟨rfl, rfl⟩
       refine L.to (D := Cls wG oG [ar48 gP46 gP48 gq5 gl4 [], ar46 gP46 gq3 gl2 [], .obj gb9 [VP gP48 x4] 23, .obj gb10 [.int .i64 a1] 3, .obj b16 [.int .i64 gx11] 3, .obj b12 [.map (some b11)] 26, .mp b11 (mrow st gl6), .obj b10 [gv7] 25, .obj b1 [.bool false] 4, .sl gv7 3 1 (gl8.map I)]) (fun _ hw => hw) ?_
       refine L.nil (E.toV2 (stC [[11]] [Cls wG oG [ar48 gP46 gP48 gq5 gl4 [], ar46 gP46 gq3 gl2 [], .obj gb9 [VP gP48 x4] 23, .obj gb10 [.int .i64 a1] 3, .obj b16 [.int .i64 gx11] 3, .obj b12 [.map (some b11)] 26, .mp b11 (mrow st gl6), .obj b10 [gv7] 25, .obj b1 [.bool false] 4, .sl gv7 3 1 (gl8.map I)]] (Cls wG oG [ar48 gP46 gP48 gq5 gl4 [], ar46 gP46 gq3 gl2 [], .obj gb9 [VP gP48 x4] 23, .obj gb10 [.int .i64 a1] 3, .obj b16 [.int .i64 gx11] 3, .obj b12 [.map (some b11)] 26, .mp b11 (mrow st gl6), .obj b10 [gv7] 25, .sl gv7 3 1 (gl8.map I)])) 6 (by kernel_rfl) (Sc.stay (fun _ hw => hw.sel [1, 0, 2, 3, 4, 5, 6, 7, 8, 9] (by decide) rfl) (Sc.stayD (fun _ hw => hw.sel [1, 0, 2, 3, 4, 5, 6, 7, 8] (by decide) rfl))) (Sc.now (by kernel_rfl) (fun _ hw => hw)) ?_)
       refine V2.zz [] (Zc.on' (Zc.fin (fun _ hw => hw)) (fun _ hw => hw.sel [0, 1, 2, 3, 4, 5, 6, 7, 9] (by decide) rfl)) (fun hz31 => ?_)
       refine V2.y (i := 9) (Nx2.of [] (by kernel_rfl) rfl hz31) rfl rfl rfl (Y.eql rfl rfl) ?_
       refine V2.y (i := 10) (Nx2.of [] (by kernel_rfl) rfl hz31) rfl rfl rfl (Y.pickT rfl rfl) ?_
       refine V2.eff (i := 11) (by kernel_rfl) rfl ?_
       refine L.store (i := 8) (vs := [.bool (decide (x29 = (gl8.length : Int)))]) sz4 rfl rfl rfl rfl (by simp [Value.oneCell', Value.cells, st, pt, el]) rfl (Nat.le_of_ble_eq_true rfl) ?_
       refine L.nil (E.toV2 (stC [] [] (Cls wG oG [ar48 gP46 gP48 gq5 gl4 [], ar46 gP46 gq3 gl2 [], .obj gb9 [VP gP48 x4] 23, .obj gb10 [.int .i64 a1] 3, .obj b16 [.int .i64 gx11] 3, .obj b12 [.map (some b11)] 26, .mp b11 (mrow st gl6), .obj b10 [gv7] 25, .sl gv7 3 1 (gl8.map I)])) 11 (by kernel_rfl) (Sc.past rfl (Sc.stayD (fun _ hw => hw))) (Sc.atD (fun _ hw => hw.sel [0, 1, 2, 3, 4, 5, 6, 7, 9] (by decide) rfl)) ?_)
       refine V2.done (by kernel_rfl) ?_
       refine E.thenG ?_
       refine G.ret ?_
       refine E.retF1 hD hDo (fk1 (fk_arn sub48) (fk1 (fk_arn sub46) (fk1 (fk_cells rfl) (fk1 (fk_cells rfl) (fk1 (fk_cells rfl) (fk1 (fk_cells rfl) (fk1 fk_mp (fk1 (fk_cells rfl) (fk1 (fk_cells rfl) (fk1 (fk_cells rfl) fk0)))))))))) rfl (Rv.cell1 (i := 8) ag4 rfl rfl) (fun w1 hw => ?_)
       obtain rfl := Option.some.inj h
       exact ⟨_, _, rfl, ⟨rfl, rfl⟩, hw.sel [] (by decide) rfl⟩
      ·
       refine V2.y (i := 4) (Nx2.of [] (by kernel_rfl) rfl hz27) rfl rfl rfl (Y.move rfl) ?_
       refine V2.pass (i := 5) (Nx2.of [] (by kernel_rfl) rfl hz27) rfl rfl ?_
       refine V2.pass (i := 6) (Nx2.of [] (by kernel_rfl) rfl hz27) rfl rfl ?_
       refine V2.pass (i := 7) (Nx2.of [] (by kernel_rfl) rfl hz27) rfl rfl ?_
       refine V2.pass (i := 8) (Nx2.of [] (by kernel_rfl) rfl hz27) rfl rfl ?_
       refine V2.pass (i := 9) (Nx2.of [] (by kernel_rfl) rfl hz27) rfl rfl ?_
       refine V2.y (i := 10) (Nx2.of [] (by kernel_rfl) rfl hz27) rfl rfl rfl (Y.pickF rfl rfl) ?_
       refine V2.eff (i := 11) (by kernel_rfl) rfl ?_
       refine L.store (i := 8) (vs := [.bool false]) sz4 rfl rfl rfl rfl (by simp [Value.oneCell', Value.cells, st, pt, el]) rfl (Nat.le_of_ble_eq_true rfl) ?_
       refine L.nil (E.toV2 (stC [] [] (Cls wG oG [ar46 gP46 gq3 gl2 [], ar48 gP46 gP48 gq5 gl4 [], .obj gb9 [VP gP48 x4] 23, .obj gb10 [.int .i64 a1] 3, .obj b16 [.int .i64 gx11] 3, .obj b12 [.map (some b11)] 26, .mp b11 (mrow st gl6), .obj b10 [gv7] 25, .sl gv7 3 1 (gl8.map I)])) 11 (by kernel_rfl) (Sc.past rfl (Sc.stayD (fun _ hw => hw))) (Sc.atD (fun _ hw => hw.sel [0, 1, 2, 3, 4, 5, 6, 7, 9] (by decide) rfl)) ?_)
       refine V2.done (by kernel_rfl) ?_
       refine E.thenG ?_
       refine G.ret ?_
       refine E.retF1 hD hDo (fk1 (fk_arn sub46) (fk1 (fk_arn sub48) (fk1 (fk_cells rfl) (fk1 (fk_cells rfl) (fk1 (fk_cells rfl) (fk1 (fk_cells rfl) (fk1 fk_mp (fk1 (fk_cells rfl) (fk1 (fk_cells rfl) (fk1 (fk_cells rfl) fk0)))))))))) rfl (Rv.cell1 (i := 8) ag4 rfl rfl) (fun w1 hw => ?_)
       obtain rfl := Option.some.inj h
       exact ⟨_, _, rfl, ⟨rfl, rfl⟩, hw.sel [] (by decide) rfl⟩
end Go.Proofs.Ytdebhhjbgbkbjaa
