/-
  Walks, printed by a program of mine.
  Conditions: none.
-/
import Derived.Test.YtdebhhjbgbkbjaaTrM
import Derived.Test.YtdebhhjbgbkbjaaChecked
import Derived.KernelRfl
import Derived.Test.YtdebhhjbgbkbjaaTrO
namespace Go.Proofs.Ytdebhhjbgbkbjaa
open Go.S
set_option linter.unusedVariables false
set_option linter.unusedSimpArgs false
theorem mixed : Try.prog.follows .mixedOrders = true := by kernel_rfl
theorem ag3 : aggB Try.prog 3 false = true := by kernel_rfl
theorem ag4 : aggB Try.prog 4 false = true := by kernel_rfl
theorem ag9 : aggB Try.prog 9 false = true := by kernel_rfl
theorem ag25 : aggB Try.prog 25 false = true := by kernel_rfl
theorem ag26 : aggB Try.prog 26 false = true := by kernel_rfl
theorem ag28 : aggB Try.prog 28 true = true := by kernel_rfl
theorem ag42 : aggB Try.prog 42 false = true := by kernel_rfl
theorem ag43 : aggB Try.prog 43 false = true := by kernel_rfl
theorem ag44 : aggB Try.prog 44 false = true := by kernel_rfl
theorem eL3 : elemB Try.prog 3 1 8 = true := by kernel_rfl
theorem eL9 : elemB Try.prog 9 1 16 = true := by kernel_rfl
theorem eL42 : elemB Try.prog 42 1 8 = true := by kernel_rfl
theorem en4 : entB Try.prog 4 = true := by kernel_rfl
theorem en5 : entB Try.prog 5 = true := by kernel_rfl
theorem en6 : entB Try.prog 6 = true := by kernel_rfl
theorem en7 : entB Try.prog 7 = true := by kernel_rfl
theorem en8 : entB Try.prog 8 = true := by kernel_rfl
theorem en9 : entB Try.prog 9 = true := by kernel_rfl
theorem en10 : entB Try.prog 10 = true := by kernel_rfl
theorem en11 : entB Try.prog 11 = true := by kernel_rfl
theorem en12 : entB Try.prog 12 = true := by kernel_rfl
theorem en13 : entB Try.prog 13 = true := by kernel_rfl
theorem en14 : entB Try.prog 14 = true := by kernel_rfl
theorem en15 : entB Try.prog 15 = true := by kernel_rfl
theorem en16 : entB Try.prog 16 = true := by kernel_rfl
theorem en17 : entB Try.prog 17 = true := by kernel_rfl
theorem en18 : entB Try.prog 18 = true := by kernel_rfl
theorem en21 : entB Try.prog 21 = true := by kernel_rfl
theorem en23 : entB Try.prog 23 = true := by kernel_rfl
theorem en24 : entB Try.prog 24 = true := by kernel_rfl
theorem en25 : entB Try.prog 25 = true := by kernel_rfl
theorem en26 : entB Try.prog 26 = true := by kernel_rfl
theorem en27 : entB Try.prog 27 = true := by kernel_rfl
theorem en28 : entB Try.prog 28 = true := by kernel_rfl
theorem en29 : entB Try.prog 29 = true := by kernel_rfl
theorem en30 : entB Try.prog 30 = true := by kernel_rfl
theorem en32 : entB Try.prog 32 = true := by kernel_rfl
theorem en33 : entB Try.prog 33 = true := by kernel_rfl
theorem en34 : entB Try.prog 34 = true := by kernel_rfl
theorem en35 : entB Try.prog 35 = true := by kernel_rfl
theorem en36 : entB Try.prog 36 = true := by kernel_rfl
theorem en39 : entB Try.prog 39 = true := by kernel_rfl
theorem en40 : entB Try.prog 40 = true := by kernel_rfl
theorem en41 : entB Try.prog 41 = true := by kernel_rfl
theorem en45 : entB Try.prog 45 = true := by kernel_rfl
theorem fd28_0 : fieldB Try.prog 28 0 0 = true := by kernel_rfl
theorem fd28_1 : fieldB Try.prog 28 1 1 = true := by kernel_rfl
theorem fd28_2 : fieldB Try.prog 28 2 2 = true := by kernel_rfl
theorem fd46_0 : fieldB Try.prog 46 0 0 = true := by kernel_rfl
theorem fd46_1 : fieldB Try.prog 46 1 1 = true := by kernel_rfl
theorem fd46_2 : fieldB Try.prog 46 2 2 = true := by kernel_rfl
theorem fd48_0 : fieldB Try.prog 48 0 0 = true := by kernel_rfl
theorem fd48_1 : fieldB Try.prog 48 1 1 = true := by kernel_rfl
theorem sz3 : szB Try.prog 3 1 = true := by kernel_rfl
theorem sz4 : szB Try.prog 4 1 = true := by kernel_rfl
theorem sz9 : szB Try.prog 9 1 = true := by kernel_rfl
theorem sz25 : szB Try.prog 25 1 = true := by kernel_rfl
theorem sz26 : szB Try.prog 26 1 = true := by kernel_rfl
theorem sz28 : szB Try.prog 28 3 = true := by kernel_rfl
theorem sz42 : szB Try.prog 42 1 = true := by kernel_rfl
theorem sz43 : szB Try.prog 43 1 = true := by kernel_rfl
theorem sz44 : szB Try.prog 44 1 = true := by kernel_rfl
theorem ze3 : zeroB Try.prog 3 = some [.int .i64 0] := by kernel_rfl
theorem ze4 : zeroB Try.prog 4 = some [.bool false] := by kernel_rfl
theorem ze25 : zeroB Try.prog 25 = some [.slice none 0 0] := by kernel_rfl
theorem ze26 : zeroB Try.prog 26 = some [.map none] := by kernel_rfl
theorem ze28 : zeroB Try.prog 28 = some [.int .i64 0, .int .i64 0, .string ⟨#[]⟩] := by kernel_rfl
theorem plain_TKeyDeed (l : List TKeyDeed) : Plain (l.map TKeyDeed.row) := by
  intro r hr u hu
  obtain ⟨x, _, rfl⟩ := List.mem_map.1 hr
  simp only [TKeyDeed.row, List.mem_cons, List.not_mem_nil, or_false] at hu
  rcases hu with rfl | rfl | rfl <;> rfl
set_option maxRecDepth 100000 in
set_option maxHeartbeats 8000000 in
theorem w4_tree_New (A46 : (List Tnode)) (A48 : (List TTree)) (gP46 : Nat → Nat) (gP48 : Nat → Nat) (qP46 : Nat → List Value) (qP48 : Nat → List Value) (w : World) (r : ((List Tnode) × (List TTree) × Int)) (h : m4_tree_New A46 A48 = some r) (F : List Nat) (hc0 : Cls w F [ar46 gP46 qP46 A46 [], ar48 gP46 gP48 qP48 A48 []] w) : DoesF Try.prog 4 [] F w fun u m => ∃ G46 G48 Q46 Q48, Gr gP46 A46.length G46 r.1.length ∧ Gr gP48 A48.length G48 r.2.1.length ∧ u = VP G48 r.2.2 ∧ m = [ar46 G46 Q46 r.1 [], ar48 G46 G48 Q48 r.2.1 []] := by
  rw [m4_tree_New] at h
  obtain ⟨g46, hg46⟩ : ∃ g, g = gP46 := ⟨_, rfl⟩
  have hGr46 : Gr g46 A46.length gP46 A46.length := hg46 ▸ Gr.refl _ _
  obtain ⟨g48, hg48⟩ : ∃ g, g = gP48 := ⟨_, rfl⟩
  have hGr48 : Gr g48 A48.length gP48 A48.length := hg48 ▸ Gr.refl _ _
  refine body (n := 5) Try.func4 rfl rfl rfl hc0 ?_
  refine W.seq (W.region (L.y rfl (Y.assign rfl) ?_))
  refine L.nil (E.thenN (W.seq (W.region (L.y rfl (Y.build (cells := #[.slice none 0 0, .slice none 0 0, .slice none 0 0]) rfl (by kernel_rfl)) ?_))))
  refine L.box rfl rfl ?_
  intro b1
  refine L.nilSl 3 1 ?_
  refine L.nilSl 9 1 ?_
  refine L.nilSl 42 1 ?_
  obtain ⟨_, ck2, h⟩ := bind1S h
  replace ck2 := ck_some ck2
  obtain ⟨ck2_0, ck2_1⟩ := ck2
  refine L.arNew (rowg := fun g => Tnode.rowA g) (subg := fun g => Tnode.subA g) (e := 46) (g := gP46) (gh := qP46) (l := A46) (hs := []) (b := b1) (u1 := (⟨[], [], []⟩ : Tnode)) (vs' := [(.slice none 0 0), (.slice none 0 0), (.slice none 0 0)]) (m' := [ar48 gP46 gP48 qP48 A48 []]) [3, 2, 1, 0, 4, 5] h (by decide) rfl (fun _ h => nomatch h) (fun g' hg x hx v => Tnode.cg46 ⟨Nat.le_refl _, hg⟩ (ck2_0 x hx)) ?_
  intro gP46 q3 x4 l5 h hg6 hv7 hi8
  rw [hv7]
  replace hGr46 := hGr46.trans hg6
  rw [ar48_up46 hg6 ck2_1]
  refine L.to (D := Cls w F [ar46 gP46 q3 l5 [], ar48 gP46 gP48 qP48 A48 []]) (fun _ hw => hw) ?_
  refine L.y rfl (Y.buildC (cells := #[VP gP46 x4, .int .i64 0]) rfl (fun w hw => by rcases VP_cases gP46 x4 with h0 | ⟨_, h0⟩ <;> simp only [h0] <;> kernel_rfl)) ?_
  refine L.box rfl rfl ?_
  intro b9
  refine L.y rfl (Y.assign rfl) ?_
  refine L.nil (E.thenN (W.ret (E.arNew (rowg := fun g => TTree.rowA gP46) (subg := fun g => TTree.subA gP46) (e := 48) (g := gP48) (gh := qP48) (l := A48) (hs := []) (b := b9) (u1 := (⟨x4, 0⟩ : TTree)) (vs' := []) (m' := [ar46 gP46 q3 l5 []]) [0, 2, 1] h (by decide) rfl (fun _ h => nomatch h) (fun _ _ _ _ _ => ⟨rfl, rfl⟩) ?_)))
  intro gP48 q10 x11 l12 h hg13 hv14 hi15
  rw [hv14]
  replace hGr48 := hGr48.trans hg13
  refine E.to (D := Cls w F [ar48 gP46 gP48 q10 l12 [], ar46 gP46 q3 l5 []]) (fun _ hw => hw) ?_
  refine E.ret1 rfl rfl (fun w1 hw => ?_)
  obtain rfl := Option.some.inj h
  exact ⟨_, _, rfl, ⟨_, _, _, _, (hg46 ▸ hGr46), (hg48 ▸ hGr48), rfl, rfl⟩, hw.sel [1, 0] (by decide) rfl⟩
set_option maxRecDepth 100000 in
set_option maxHeartbeats 8000000 in
theorem w23_cmp_isNaN_int (a0 : Int) (w : World) (r : Bool) (h : m23_cmp_isNaN_int a0 = some r) : Does Try.prog 23 [.int .i64 a0] w fun u m => u = .bool r ∧ m = [] := by
  rw [m23_cmp_isNaN_int] at h
  refine body (n := 6) Try.func23 rfl rfl rfl (Cls.refl w) ?_
  refine W.seq (W.region (L.y rfl (Y.assign rfl) ?_))
  refine L.nil (E.thenN (W.seq (W.region (L.y rfl (Y.move rfl) ?_))))
  refine L.y rfl (Y.move rfl) ?_
  refine L.y rfl (Y.neq rfl rfl) ?_
  refine L.y rfl (Y.assign rfl) ?_
  refine L.nil (E.thenN (W.ret (E.ret1 rfl rfl (fun w1 hw => ?_))))
  obtain rfl := Option.some.inj h
  exact ⟨_, _, rfl, ⟨rfl, rfl⟩, hw⟩
set_option maxRecDepth 100000 in
set_option maxHeartbeats 8000000 in
theorem w13_cmp_Less_int (a0 : Int) (a1 : Int) (w : World) (r : Bool) (h : m13_cmp_Less_int a0 a1 = some r) : Does Try.prog 13 [.int .i64 a0, .int .i64 a1] w fun u m => u = .bool r ∧ m = [] := by
  rw [m13_cmp_Less_int] at h
  refine body (n := 17) Try.func13 rfl rfl rfl (Cls.refl w) ?_
  refine W.seq (W.region (L.y rfl (Y.assign rfl) ?_))
  refine L.nil (E.thenN (W.seq (W.region (L.cutJ 7 (fun gs D => ∃ (gb1 : Bool), gs = [(0, .int .i64 a0), (1, .int .i64 a1), (11, .bool gb1)] ∧ D = Cls w [] [] ∧ m13_cmp_Less_int_K1 a0 a1 gb1 = some r) ?_ ?_))))
  ·
   refine L.y rfl (Y.move rfl) ?_
   obtain ⟨b1, e2, h⟩ := bind1S h
   refine L.y rfl (Y.does en23 rfl (fun w' hw => (w23_cmp_isNaN_int a0 w' _ e2).mono (fun _ _ h => h.1))) ?_
   rcases b1 with _ | _
   ·
    replace h := iteF h
    refine L.y rfl (Y.move rfl) ?_
    refine L.pass rfl rfl (by nofun) ?_
    refine L.pass rfl rfl (by nofun) ?_
    refine L.pass rfl rfl (by nofun) ?_
    refine L.y rfl (Y.pickF rfl rfl) ?_
    exact L.nil (E.joinJ ⟨false, rfl, rfl, h⟩ ⟨rfl, rfl, rfl, trivial⟩ (fun _ hw => hw))
   ·
    replace h := iteT h
    refine L.y rfl (Y.move rfl) ?_
    refine L.take rfl (L.y rfl (Y.move rfl) ?_)
    refine L.take rfl ?_
    obtain ⟨b3, e4, h⟩ := bind1S h
    refine L.y rfl (Y.does en23 rfl (fun w' hw => (w23_cmp_isNaN_int a1 w' _ e4).mono (fun _ _ h => h.1))) ?_
    rcases b3 with _ | _
    ·
     replace h := iteF h
     refine L.take rfl (L.y rfl (Y.not rfl) ?_)
     refine L.y rfl (Y.pickT rfl rfl) ?_
     exact L.nil (E.joinJ ⟨true, rfl, rfl, h⟩ ⟨rfl, rfl, rfl, trivial⟩ (fun _ hw => hw))
    ·
     replace h := iteT h
     refine L.take rfl (L.y rfl (Y.not rfl) ?_)
     refine L.y rfl (Y.pickT rfl rfl) ?_
     exact L.nil (E.joinJ ⟨false, rfl, rfl, h⟩ ⟨rfl, rfl, rfl, trivial⟩ (fun _ hw => hw))
  ·
   rintro _ _ ⟨gb1, rfl, rfl, h⟩
   rw [m13_cmp_Less_int_K1] at h
   rcases gb1 with _ | _
   ·
    replace h := iteF h
    refine L.y rfl (Y.move rfl) ?_
    refine L.take rfl (L.y rfl (Y.move rfl) ?_)
    refine L.take rfl (L.y rfl (Y.move rfl) ?_)
    refine L.take rfl (L.y rfl (Y.lss rfl rfl) ?_)
    refine L.y rfl (Y.pickF rfl rfl) ?_
    refine L.y rfl (Y.assign rfl) ?_
    refine L.nil (E.thenN (W.ret (E.ret1 rfl rfl (fun w1 hw => ?_))))
    obtain rfl := Option.some.inj h
    exact ⟨_, _, rfl, ⟨rfl, rfl⟩, hw⟩
   ·
    replace h := iteT h
    refine L.y rfl (Y.move rfl) ?_
    refine L.pass rfl rfl (by nofun) ?_
    refine L.pass rfl rfl (by nofun) ?_
    refine L.pass rfl rfl (by nofun) ?_
    refine L.y rfl (Y.pickT rfl rfl) ?_
    refine L.y rfl (Y.assign rfl) ?_
    refine L.nil (E.thenN (W.ret (E.ret1 rfl rfl (fun w1 hw => ?_))))
    obtain rfl := Option.some.inj h
    exact ⟨_, _, rfl, ⟨rfl, rfl⟩, hw⟩
set_option maxRecDepth 100000 in
set_option maxHeartbeats 8000000 in
theorem w14_slices_isNaN_int (a0 : Int) (w : World) (r : Bool) (h : m14_slices_isNaN_int a0 = some r) : Does Try.prog 14 [.int .i64 a0] w fun u m => u = .bool r ∧ m = [] := by
  rw [m14_slices_isNaN_int] at h
  refine body (n := 6) Try.func14 rfl rfl rfl (Cls.refl w) ?_
  refine W.seq (W.region (L.y rfl (Y.assign rfl) ?_))
  refine L.nil (E.thenN (W.seq (W.region (L.y rfl (Y.move rfl) ?_))))
  refine L.y rfl (Y.move rfl) ?_
  refine L.y rfl (Y.neq rfl rfl) ?_
  refine L.y rfl (Y.assign rfl) ?_
  refine L.nil (E.thenN (W.ret (E.ret1 rfl rfl (fun w1 hw => ?_))))
  obtain rfl := Option.some.inj h
  exact ⟨_, _, rfl, ⟨rfl, rfl⟩, hw⟩
set_option maxRecDepth 100000 in
set_option maxHeartbeats 8000000 in
theorem w5_slices_BinarySearch_int (a0 : (List Int)) (a1 : Int) (u0 : Value) (w : World) (r : (Int × Bool)) (h : m5_slices_BinarySearch_int a0 a1 = some r) (hA0 : At w u0 1 (a0.map I)) : Does Try.prog 5 [u0, .int .i64 a1] w fun u m => u = .tuple #[.int .i64 r.1, .bool r.2] ∧ m = [] := by
  rw [m5_slices_BinarySearch_int] at h
  refine body (n := 54) Try.func5 rfl rfl rfl (Cls.refl w) ?_
  refine W.seq (W.region (L.y rfl (Y.assign rfl) ?_))
  refine L.y rfl (Y.assign rfl) ?_
  refine L.nil (E.thenN (W.seq (W.region (L.y rfl (Y.move rfl) ?_))))
  refine L.y rfl (Y.lenM (g := I) (l := a0) Try.underlying25 rfl (fun w' hw => hA0.cls0 hw)) ?_
  refine L.y rfl (Y.assign rfl) ?_
  refine L.nil (E.thenN (W.seq (W.region (L.y rfl (Y.move rfl) ?_))))
  refine L.y rfl (Y.assign rfl) ?_
  refine L.y rfl (Y.assign rfl) ?_
  refine L.nil (E.thenN (W.seqJ (fun gs D => ∃ (gx1 : Int), gs = [(0, u0), (1, .int .i64 a1), (6, .int .i64 (a0.length : Int)), (7, .int .i64 gx1)] ∧ D = Cls w [] [] ∧ m5_slices_BinarySearch_int_K1 a0 a1 gx1 = some r) ?_ ?_))
  ·
   refine W.block (W.loopJ (fun m gs D => ∃ (gx3 : Int) (gx4 : Int), gs = [(0, u0), (1, .int .i64 a1), (6, .int .i64 (a0.length : Int)), (7, .int .i64 gx3), (8, .int .i64 gx4)] ∧ D = Cls w [] [] ∧ m5_slices_BinarySearch_int_L1 a0 a1 m gx3 gx4 = some r) ⟨0, (a0.length : Int), rfl, rfl, h⟩ ⟨rfl, rfl, rfl, rfl, rfl, trivial⟩ (fun _ hw => hw) ?_)
   rintro m _ _ ⟨gx3, gx4, rfl, rfl, h⟩
   rcases m with _ | m
   · rw [m5_slices_BinarySearch_int_L1] at h; cases h
   rw [m5_slices_BinarySearch_int_L1] at h
   generalize hg1 : m5_slices_BinarySearch_int_L1 a0 a1 m = go1 at h
   rw [m5_slices_BinarySearch_int_L1B] at h
   refine W.seqJ (fun gs D => gs = [(0, u0), (1, .int .i64 a1), (6, .int .i64 (a0.length : Int)), (7, .int .i64 gx3), (8, .int .i64 gx4)] ∧ D = Cls w [] [] ∧ m5_slices_BinarySearch_int_K3 gx3 gx4 a0 a1 go1 = some r) ?_ ?_
   ·
    refine W.seq (W.region (L.y rfl (Y.move rfl) ?_))
    refine L.y rfl (Y.move rfl) ?_
    refine L.ite h rfl (Y.lss rfl rfl) (fun c15 h => ?_) (fun c15 h => ?_)
    ·
     refine L.nil (E.thenN (W.condT rfl ?_))
     exact W.skip (E.joinJ ⟨rfl, rfl, h⟩ ⟨rfl, rfl, rfl, rfl, rfl, trivial⟩ (fun _ hw => hw))
    ·
     refine L.nil (E.thenN (W.condF rfl ?_))
     exact W.exit (E.KSX (E.KLX (E.blockX (E.joinJ ⟨gx3, rfl, rfl, h⟩ ⟨rfl, rfl, rfl, rfl, trivial⟩ (fun _ hw => hw)))))
   ·
    rintro _ _ ⟨rfl, rfl, h⟩
    rw [m5_slices_BinarySearch_int_K3] at h
    refine W.block (W.seq (W.region (L.y rfl (Y.move rfl) ?_)))
    refine L.y rfl (Y.move rfl) ?_
    refine L.m (V := fun x9 => .int .i64 x9) h rfl (Y.addM rfl rfl) (fun x9 ex9 h => ?_)
    refine L.y rfl (Y.conv Try.underlying3 Try.underlying49 rfl) ?_
    refine L.m (V := fun x10 => .int .u64 x10) h rfl (Y.shrM rfl rfl) (fun x10 ex10 h => ?_)
    refine L.y rfl (Y.conv Try.underlying49 Try.underlying3 rfl) ?_
    refine L.y rfl (Y.assign rfl) ?_
    refine L.nil (E.thenN (W.seq (W.region (L.y rfl (Y.move rfl) ?_))))
    refine L.y rfl (Y.move rfl) ?_
    refine L.m (V := fun _ => el u0 ((IntKind.wrap .i64 x10).toNat * 1)) h rfl (Y.indexM (g := I) (l := a0) Try.underlying25 sz3 rfl rfl (fun w' hw => hA0.cls0 hw)) (fun x11 ex11 h => ?_)
    refine L.y rfl (Y.loadE1 (u := .int .i64 x11) ag3 rfl (fun w' hw => hA0.cls0 hw) (idx_map ex11)) ?_
    refine L.y rfl (Y.move rfl) ?_
    obtain ⟨b12, e13, h⟩ := bind1S h
    refine L.y rfl (Y.does en13 rfl (fun w' hw => (w13_cmp_Less_int x11 a1 w' _ e13).mono (fun _ _ h => h.1))) ?_
    rcases b12 with _ | _
    ·
     replace h := iteF h
     refine L.nil (E.thenN (W.condF rfl ?_))
     refine W.region (L.y rfl (Y.move rfl) ?_)
     refine L.y rfl (Y.assign rfl) ?_
     exact L.nil (E.blockN (E.againJ ⟨gx3, IntKind.wrap .i64 x10, rfl, rfl, by rw [hg1]; exact h⟩ (Nat.lt_succ_self _) ⟨rfl, rfl, rfl, rfl, rfl, trivial⟩ (fun _ hw => hw)))
    ·
     replace h := iteT h
     refine L.nil (E.thenN (W.condT rfl ?_))
     refine W.region (L.y rfl (Y.move rfl) ?_)
     refine L.m (V := fun x14 => .int .i64 x14) h rfl (Y.addM rfl rfl) (fun x14 ex14 h => ?_)
     refine L.y rfl (Y.assign rfl) ?_
     exact L.nil (E.blockN (E.againJ ⟨x14, gx4, rfl, rfl, by rw [hg1]; exact h⟩ (Nat.lt_succ_self _) ⟨rfl, rfl, rfl, rfl, rfl, trivial⟩ (fun _ hw => hw)))
  ·
   rintro _ _ ⟨gx1, rfl, rfl, h⟩
   rw [m5_slices_BinarySearch_int_K1] at h
   refine W.seq (W.region (L.cutJ 23 (fun gs D => ∃ (gb2 : Bool), gs = [(31, .int .i64 gx1), (53, .bool gb2)] ∧ D = Cls w [] [] ∧ m5_slices_BinarySearch_int_K2 gx1 gb2 = some r) ?_ ?_))
   ·
    refine L.y rfl (Y.move rfl) ?_
    refine L.y rfl (Y.move rfl) ?_
    refine L.y rfl (Y.move rfl) ?_
    refine L.ite h rfl (Y.lss rfl rfl) (fun c1 h => ?_) (fun c1 h => ?_)
    ·
     refine L.y rfl (Y.move rfl) ?_
     refine L.take rfl (L.y rfl (Y.move rfl) ?_)
     refine L.take rfl (L.y rfl (Y.move rfl) ?_)
     refine L.take rfl (L.m (V := fun _ => el u0 (gx1.toNat * 1)) h rfl (Y.indexM (g := I) (l := a0) Try.underlying25 sz3 rfl rfl (fun w' hw => hA0.cls0 hw)) (fun x2 ex2 h => ?_))
     refine L.take rfl (L.y rfl (Y.loadE1 (u := .int .i64 x2) ag3 rfl (fun w' hw => hA0.cls0 hw) (idx_map ex2)) ?_)
     refine L.take rfl (L.y rfl (Y.move rfl) ?_)
     refine L.take rfl (L.ite h rfl (Y.eql rfl rfl) (fun c3 h => ?_) (fun c3 h => ?_))
     ·
      refine L.take rfl (L.y rfl (Y.move rfl) ?_)
      refine L.pass rfl rfl (by nofun) ?_
      refine L.pass rfl rfl (by nofun) ?_
      refine L.pass rfl rfl (by nofun) ?_
      refine L.pass rfl rfl (by nofun) ?_
      refine L.pass rfl rfl (by nofun) ?_
      refine L.pass rfl rfl (by nofun) ?_
      refine L.pass rfl rfl (by nofun) ?_
      refine L.pass rfl rfl (by nofun) ?_
      refine L.pass rfl rfl (by nofun) ?_
      refine L.take rfl (L.y rfl (Y.pickT rfl rfl) ?_)
      refine L.y rfl (Y.pickT rfl rfl) ?_
      exact L.nil (E.joinJ ⟨true, rfl, rfl, h⟩ ⟨rfl, rfl, trivial⟩ (fun _ hw => hw))
     ·
      refine L.take rfl (L.y rfl (Y.move rfl) ?_)
      refine L.take rfl (L.y rfl (Y.move rfl) ?_)
      refine L.take rfl (L.y rfl (Y.move rfl) ?_)
      refine L.take rfl (L.m (V := fun _ => el u0 (gx1.toNat * 1)) h rfl (Y.indexM (g := I) (l := a0) Try.underlying25 sz3 rfl rfl (fun w' hw => hA0.cls0 hw)) (fun x4 ex4 h => ?_))
      refine L.take rfl (L.y rfl (Y.loadE1 (u := .int .i64 x4) ag3 rfl (fun w' hw => hA0.cls0 hw) (idx_map ex4)) ?_)
      refine L.take rfl ?_
      obtain ⟨b5, e6, h⟩ := bind1S h
      refine L.y rfl (Y.does en14 rfl (fun w' hw => (w14_slices_isNaN_int x4 w' _ e6).mono (fun _ _ h => h.1))) ?_
      rcases b5 with _ | _
      ·
       replace h := iteF h
       refine L.take rfl (L.y rfl (Y.move rfl) ?_)
       refine L.pass rfl rfl (by nofun) ?_
       refine L.pass rfl rfl (by nofun) ?_
       refine L.take rfl (L.y rfl (Y.pickF rfl rfl) ?_)
       refine L.take rfl (L.y rfl (Y.pickF rfl rfl) ?_)
       refine L.y rfl (Y.pickT rfl rfl) ?_
       exact L.nil (E.joinJ ⟨false, rfl, rfl, h⟩ ⟨rfl, rfl, trivial⟩ (fun _ hw => hw))
      ·
       replace h := iteT h
       refine L.take rfl (L.y rfl (Y.move rfl) ?_)
       refine L.take rfl (L.y rfl (Y.move rfl) ?_)
       refine L.take rfl ?_
       obtain ⟨b7, e8, h⟩ := bind1S h
       refine L.y rfl (Y.does en14 rfl (fun w' hw => (w14_slices_isNaN_int a1 w' _ e8).mono (fun _ _ h => h.1))) ?_
       refine L.take rfl (L.y rfl (Y.pickT rfl rfl) ?_)
       refine L.take rfl (L.y rfl (Y.pickF rfl rfl) ?_)
       refine L.y rfl (Y.pickT rfl rfl) ?_
       exact L.nil (E.joinJ ⟨b7, rfl, rfl, h⟩ ⟨rfl, rfl, trivial⟩ (fun _ hw => hw))
    ·
     refine L.y rfl (Y.move rfl) ?_
     refine L.pass rfl rfl (by nofun) ?_
     refine L.pass rfl rfl (by nofun) ?_
     refine L.pass rfl rfl (by nofun) ?_
     refine L.pass rfl rfl (by nofun) ?_
     refine L.pass rfl rfl (by nofun) ?_
     refine L.pass rfl rfl (by nofun) ?_
     refine L.pass rfl rfl (by nofun) ?_
     refine L.pass rfl rfl (by nofun) ?_
     refine L.pass rfl rfl (by nofun) ?_
     refine L.pass rfl rfl (by nofun) ?_
     refine L.pass rfl rfl (by nofun) ?_
     refine L.pass rfl rfl (by nofun) ?_
     refine L.pass rfl rfl (by nofun) ?_
     refine L.pass rfl rfl (by nofun) ?_
     refine L.pass rfl rfl (by nofun) ?_
     refine L.pass rfl rfl (by nofun) ?_
     refine L.pass rfl rfl (by nofun) ?_
     refine L.y rfl (Y.pickF rfl rfl) ?_
     exact L.nil (E.joinJ ⟨false, rfl, rfl, h⟩ ⟨rfl, rfl, trivial⟩ (fun _ hw => hw))
   ·
    rintro _ _ ⟨gb2, rfl, rfl, h⟩
    rw [m5_slices_BinarySearch_int_K2] at h
    refine L.y rfl (Y.assign rfl) ?_
    refine L.y rfl (Y.assign rfl) ?_
    refine L.nil (E.thenN (W.ret (E.ret2 rfl rfl rfl (fun w1 hw => ?_))))
    obtain rfl := Option.some.inj h
    exact ⟨_, _, rfl, ⟨rfl, rfl⟩, hw⟩
set_option maxRecDepth 100000 in
set_option maxHeartbeats 8000000 in
theorem w24_sort_SearchInts (a0 : (List Int)) (a1 : Int) (u0 : Value) (w : World) (r : Int) (h : m24_sort_SearchInts a0 a1 = some r) (hA0 : At w u0 1 (a0.map I)) : Does Try.prog 24 [u0, .int .i64 a1] w fun u m => u = .int .i64 r ∧ m = [] := by
  rw [m24_sort_SearchInts] at h
  refine body (n := 9) Try.func24 rfl rfl rfl (Cls.refl w) ?_
  refine W.seq (W.region (L.boxV rfl rfl (fun _ hw => (hA0.cls0 hw).one) ?_))
  intro b1
  refine L.box rfl rfl ?_
  intro b2
  refine L.y rfl (Y.assign rfl) ?_
  refine L.nil (E.thenN (W.seq (W.region (L.y rfl (Y.loadP (i := 1) ag25 rfl rfl rfl) ?_))))
  refine L.y rfl (Y.lenM (g := I) (l := a0) Try.underlying25 rfl (fun w' hw => hA0.cls0 hw)) ?_
  refine L.y rfl (Y.func rfl) ?_
  refine L.callJ (fun v D => ∃ (gx1 : Int), v = .int .i64 gx1 ∧ D = Cls w [] [] ∧ m24_sort_SearchInts_K1 gx1 = some r) rfl en32 rfl Try.func32 rfl rfl rfl ?_ ?_
  ·
   refine W.seq (W.region (L.y rfl (Y.assign rfl) ?_))
   refine L.nil (E.thenN (W.seq (W.region (L.y rfl (Y.move rfl) ?_))))
   refine L.y rfl (Y.assign rfl) ?_
   refine L.y rfl (Y.assign rfl) ?_
   refine L.nil (E.thenN (W.seqJ (fun gs D => ∃ (gx2 : Int), gs = [(5, .int .i64 gx2)] ∧ D = Cls w [] [] ∧ m24_sort_SearchInts_K2 gx2 = some r) ?_ ?_))
   ·
    refine W.block (W.loopJ (fun m gs D => ∃ (gx3 : Int) (gx4 : Int), gs = [(1, .func (.func 33) #[] #[pt b1 0, pt b2 0]), (5, .int .i64 gx3), (6, .int .i64 gx4)] ∧ D = Cls w [] [.obj b2 [.int .i64 a1] 3, .obj b1 [u0] 25] ∧ m24_sort_SearchInts_L1 a0 a1 m gx3 gx4 = some r) ⟨0, (a0.length : Int), rfl, rfl, h⟩ ⟨rfl, rfl, rfl, trivial⟩ (fun _ hw => hw) ?_)
    rintro m _ _ ⟨gx3, gx4, rfl, rfl, h⟩
    rcases m with _ | m
    · rw [m24_sort_SearchInts_L1] at h; cases h
    rw [m24_sort_SearchInts_L1] at h
    generalize hg1 : m24_sort_SearchInts_L1 a0 a1 m = go1 at h
    rw [m24_sort_SearchInts_L1B] at h
    refine W.seqJ (fun gs D => gs = [(1, .func (.func 33) #[] #[pt b1 0, pt b2 0]), (5, .int .i64 gx3), (6, .int .i64 gx4)] ∧ D = Cls w [] [.obj b2 [.int .i64 a1] 3, .obj b1 [u0] 25] ∧ m24_sort_SearchInts_K3 gx3 gx4 a0 go1 a1 = some r) ?_ ?_
    ·
     refine W.seq (W.region (L.y rfl (Y.move rfl) ?_))
     refine L.y rfl (Y.move rfl) ?_
     refine L.ite h rfl (Y.lss rfl rfl) (fun c7 h => ?_) (fun c7 h => ?_)
     ·
      refine L.nil (E.thenN (W.condT rfl ?_))
      exact W.skip (E.joinJ ⟨rfl, rfl, h⟩ ⟨rfl, rfl, rfl, trivial⟩ (fun _ hw => hw))
     ·
      refine L.nil (E.thenN (W.condF rfl ?_))
      exact W.exit (E.KSX (E.KLX (E.blockX (E.joinJ ⟨gx3, rfl, rfl, h⟩ ⟨rfl, trivial⟩ (fun _ hw => hw.sel [] (by decide) rfl)))))
    ·
     rintro _ _ ⟨rfl, rfl, h⟩
     rw [m24_sort_SearchInts_K3] at h
     refine W.block (W.seq (W.region (L.y rfl (Y.move rfl) ?_)))
     refine L.y rfl (Y.move rfl) ?_
     refine L.m (V := fun x3 => .int .i64 x3) h rfl (Y.addM rfl rfl) (fun x3 ex3 h => ?_)
     refine L.y rfl (Y.conv Try.underlying3 Try.underlying49 rfl) ?_
     refine L.m (V := fun x4 => .int .u64 x4) h rfl (Y.shrM rfl rfl) (fun x4 ex4 h => ?_)
     refine L.y rfl (Y.conv Try.underlying49 Try.underlying3 rfl) ?_
     refine L.y rfl (Y.assign rfl) ?_
     refine L.nil (E.thenN (W.seq (W.region (L.y rfl (Y.move rfl) ?_))))
     refine L.y rfl (Y.move rfl) ?_
     refine L.callVJ (fun v D => ∃ (gb5 : Bool), v = .bool gb5 ∧ D = Cls w [] [.obj b2 [.int .i64 a1] 3, .obj b1 [u0] 25] ∧ m24_sort_SearchInts_K4 go1 gx3 x4 gx4 gb5 = some r) rfl en33 rfl rfl Try.func33 rfl rfl rfl ?_ ?_
     ·
      refine W.seq (W.region (L.y rfl (Y.assign rfl) ?_))
      refine L.nil (E.thenN (W.seq (W.quietC mixed (by kernel_rfl) (fun _ hw => hw.drew) (fun hC => ?_))))
      refine U.y rfl (Y.loadP (i := 1) ag25 rfl rfl rfl) ?_
      refine U.y rfl (Y.move rfl) ?_
      refine U.m (V := fun _ => el u0 ((IntKind.wrap .i64 x4).toNat * 1)) h rfl (Y.indexM (g := I) (l := a0) Try.underlying25 sz3 rfl rfl (fun w' hw => hA0.cls0 hw)) (fun x6 ex6 h => ?_)
      refine U.y rfl (Y.loadE1 (u := .int .i64 x6) ag3 rfl (fun w' hw => hA0.cls0 hw) (idx_map ex6)) ?_
      refine U.y rfl (Y.loadP (i := 0) ag3 rfl rfl rfl) ?_
      refine U.y rfl (Y.geq rfl rfl) ?_
      refine U.y rfl (Y.assign rfl) ?_
      refine U.nil (E.thenN (W.ret (E.ret1 rfl rfl (fun w1 hw => ?_))))
      exact ⟨_, _, rfl, ⟨decide (a1 ≤ x6), rfl, rfl, h⟩, hw⟩
     ·
      rintro _ _ ⟨gb5, rfl, rfl, h⟩
      rw [m24_sort_SearchInts_K4] at h
      rcases gb5 with _ | _
      ·
       replace h := iteF h
       refine L.y rfl (Y.not rfl) ?_
       refine L.nil (E.thenN (W.condT rfl ?_))
       refine W.region (L.y rfl (Y.move rfl) ?_)
       refine L.m (V := fun x5 => .int .i64 x5) h rfl (Y.addM rfl rfl) (fun x5 ex5 h => ?_)
       refine L.y rfl (Y.assign rfl) ?_
       exact L.nil (E.blockN (E.againJ ⟨x5, gx4, rfl, rfl, by rw [hg1]; exact h⟩ (Nat.lt_succ_self _) ⟨rfl, rfl, rfl, trivial⟩ (fun _ hw => hw)))
      ·
       replace h := iteT h
       refine L.y rfl (Y.not rfl) ?_
       refine L.nil (E.thenN (W.condF rfl ?_))
       refine W.region (L.y rfl (Y.move rfl) ?_)
       refine L.y rfl (Y.assign rfl) ?_
       exact L.nil (E.blockN (E.againJ ⟨gx3, IntKind.wrap .i64 x4, rfl, rfl, by rw [hg1]; exact h⟩ (Nat.lt_succ_self _) ⟨rfl, rfl, rfl, trivial⟩ (fun _ hw => hw)))
   ·
    rintro _ _ ⟨gx2, rfl, rfl, h⟩
    rw [m24_sort_SearchInts_K2] at h
    refine W.seq (W.region (L.y rfl (Y.move rfl) ?_))
    refine L.y rfl (Y.assign rfl) ?_
    refine L.nil (E.thenN (W.ret (E.ret1 rfl rfl (fun w1 hw => ?_))))
    exact ⟨_, _, rfl, ⟨gx2, rfl, rfl, h⟩, hw⟩
  ·
   rintro _ _ ⟨gx1, rfl, rfl, h⟩
   rw [m24_sort_SearchInts_K1] at h
   refine L.y rfl (Y.assign rfl) ?_
   refine L.nil (E.thenN (W.ret (E.ret1 rfl rfl (fun w1 hw => ?_))))
   obtain rfl := Option.some.inj h
   exact ⟨_, _, rfl, ⟨rfl, rfl⟩, hw⟩
set_option maxRecDepth 100000 in
set_option maxHeartbeats 8000000 in
theorem w15_tree_node_find (a0 : Int) (a1 : Int) (A46 : (List Tnode)) (gP46 : Nat → Nat) (qP46 : Nat → List Value) (w : World) (r : (Int × Bool)) (h : m15_tree_node_find a0 a1 A46 = some r) (F : List Nat) (hc0 : Cls w F [ar46 gP46 qP46 A46 []] w) : DoesF Try.prog 15 [VP gP46 a0, .int .i64 a1] F w fun u m => u = .tuple #[.int .i64 r.1, .bool r.2] ∧ m = [ar46 gP46 qP46 A46 []] := by
  rw [m15_tree_node_find] at h
  refine body (n := 32) Try.func15 rfl rfl rfl hc0 ?_
  refine W.seq (W.region (L.y rfl (Y.assign rfl) ?_))
  refine L.y rfl (Y.assign rfl) ?_
  refine L.nil (E.thenN (W.seq (W.region (L.y rfl (Y.move rfl) ?_))))
  obtain ⟨u1, eu1, h⟩ := bind1S h
  refine L.to (D := Cls w F [.obj (gP46 a0.toNat) [(gv (qP46 a0.toNat) 0), (gv (qP46 a0.toNat) 1), (gv (qP46 a0.toNat) 2)] 46, .sl (gv (qP46 a0.toNat) 0) 3 1 (u1.keys_.map I), .sl (gv (qP46 a0.toNat) 1) 9 1 (u1.texts_.map SR), .sl (gv (qP46 a0.toNat) 2) 42 1 (u1.kids_.map (PR gP46)), ar46 gP46 qP46 A46 (a0.toNat :: [])]) (fun _ hw => hw.arOpen (p := 0) rfl eu1 List.not_mem_nil) ?_
  refine L.y rfl (Y.apNil rfl eu1) ?_
  refine L.y rfl (Y.fieldP fd46_0 rfl) ?_
  refine L.y rfl (Y.loadP (i := 0) ag25 rfl rfl rfl) ?_
  refine L.y rfl (Y.move rfl) ?_
  obtain ⟨x2, e3, h⟩ := bind1S h
  refine L.y rfl (Y.does en24 rfl (fun w' hw => (w24_sort_SearchInts u1.keys_ a1 (gv (qP46 a0.toNat) 0) w' _ e3 (As.at_ (hw.get (i := 1) rfl))).mono (fun _ _ h => h.1))) ?_
  refine L.y rfl (Y.assign rfl) ?_
  refine L.nil (E.thenN (W.seq (W.quietC mixed (by kernel_rfl) (fun _ hw => hw.drew) (fun hC => ?_))))
  refine U.y rfl (Y.move rfl) ?_
  refine U.y rfl (Y.move rfl) ?_
  refine U.y rfl (Y.move rfl) ?_
  refine U.y rfl (Y.apNil rfl eu1) ?_
  refine U.y rfl (Y.fieldP fd46_0 rfl) ?_
  refine U.y rfl (Y.loadP (i := 0) ag25 rfl rfl rfl) ?_
  refine U.y rfl (Y.lenM (g := I) (l := u1.keys_) Try.underlying25 rfl (fun w hw => As.at_ (hw.get (i := 1) rfl))) ?_
  refine U.ite h rfl (Y.lss rfl rfl) (fun c4 h => ?_) (fun c4 h => ?_)
  ·
   refine U.y rfl (Y.move rfl) ?_
   refine U.take rfl (U.y rfl (Y.move rfl) ?_)
   refine U.take rfl (U.y rfl (Y.apNil rfl eu1) ?_)
   refine U.take rfl (U.y rfl (Y.fieldP fd46_0 rfl) ?_)
   refine U.take rfl (U.y rfl (Y.loadP (i := 0) ag25 rfl rfl rfl) ?_)
   refine U.take rfl (U.y rfl (Y.move rfl) ?_)
   refine U.take rfl (U.m (V := fun _ => el (gv (qP46 a0.toNat) 0) (x2.toNat * 1)) h rfl (Y.indexM (g := I) (l := u1.keys_) Try.underlying25 sz3 rfl rfl (fun w hw => As.at_ (hw.get (i := 1) rfl))) (fun x5 ex5 h => ?_))
   refine U.take rfl (U.y rfl (Y.loadE1 (u := .int .i64 x5) ag3 rfl (fun w hw => As.at_ (hw.get (i := 1) rfl)) (idx_map ex5)) ?_)
   refine U.take rfl (U.y rfl (Y.move rfl) ?_)
   refine U.take rfl (U.y rfl (Y.eql rfl rfl) ?_)
   refine U.y rfl (Y.pickT rfl rfl) ?_
   refine U.y rfl (Y.assign rfl) ?_
   refine U.y rfl (Y.assign rfl) ?_
   refine U.nil (E.thenN (W.ret (E.to (D := Cls w F [ar46 gP46 qP46 A46 []]) (fun _ hw => hw.arShut (hs' := (a0.toNat :: [])) [0, 1, 2, 3, 4] eu1 (by decide) rfl (fun _ => List.mem_cons) List.not_mem_nil) ?_)))
   refine E.ret2 rfl rfl rfl (fun w1 hw => ?_)
   obtain rfl := Option.some.inj h
   exact ⟨_, _, rfl, ⟨rfl, rfl⟩, hw⟩
  ·
   refine U.y rfl (Y.move rfl) ?_
   refine U.pass rfl rfl (by nofun) ?_
   refine U.pass rfl rfl (by nofun) ?_
   refine U.pass rfl rfl (by nofun) ?_
   refine U.pass rfl rfl (by nofun) ?_
   refine U.pass rfl rfl (by nofun) ?_
   refine U.pass rfl rfl (by nofun) ?_
   refine U.pass rfl rfl (by nofun) ?_
   refine U.pass rfl rfl (by nofun) ?_
   refine U.pass rfl rfl (by nofun) ?_
   refine U.y rfl (Y.pickF rfl rfl) ?_
   refine U.y rfl (Y.assign rfl) ?_
   refine U.y rfl (Y.assign rfl) ?_
   refine U.nil (E.thenN (W.ret (E.to (D := Cls w F [ar46 gP46 qP46 A46 []]) (fun _ hw => hw.arShut (hs' := (a0.toNat :: [])) [0, 1, 2, 3, 4] eu1 (by decide) rfl (fun _ => List.mem_cons) List.not_mem_nil) ?_)))
   refine E.ret2 rfl rfl rfl (fun w1 hw => ?_)
   obtain rfl := Option.some.inj h
   exact ⟨_, _, rfl, ⟨rfl, rfl⟩, hw⟩
set_option maxRecDepth 100000 in
set_option maxHeartbeats 8000000 in
theorem w6_tree_Tree_Get (a0 : Int) (a1 : Int) (A46 : (List Tnode)) (A48 : (List TTree)) (gP46 : Nat → Nat) (gP48 : Nat → Nat) (qP46 : Nat → List Value) (qP48 : Nat → List Value) (w : World) (r : ((List UInt8) × Int)) (h : m6_tree_Tree_Get a0 a1 A46 A48 = some r) (F : List Nat) (hc0 : Cls w F [ar46 gP46 qP46 A46 [], ar48 gP46 gP48 qP48 A48 []] w) : DoesF Try.prog 6 [VP gP48 a0, .int .i64 a1] F w fun u m => u = .tuple #[st r.1, .int .i64 r.2] ∧ m = [ar46 gP46 qP46 A46 [], ar48 gP46 gP48 qP48 A48 []] := by
  rw [m6_tree_Tree_Get] at h
  refine body (n := 42) Try.func6 rfl rfl rfl hc0 ?_
  refine W.seq (W.region (L.y rfl (Y.assign rfl) ?_))
  refine L.y rfl (Y.assign rfl) ?_
  refine L.nil (E.thenN (W.seq (W.region (L.y rfl (Y.move rfl) ?_))))
  obtain ⟨u1, eu1, h⟩ := bind1S h
  refine L.to (D := Cls w F [.obj (gP48 a0.toNat) [VP gP46 u1.root_, .int .i64 u1.n_] 48, ar48 gP46 gP48 qP48 A48 (a0.toNat :: []), ar46 gP46 qP46 A46 []]) (fun _ hw => hw.arOpen (p := 1) rfl eu1 List.not_mem_nil) ?_
  refine L.y rfl (Y.apNil rfl eu1) ?_
  refine L.y rfl (Y.fieldP fd48_0 rfl) ?_
  refine L.y rfl (Y.loadP (i := 0) ag42 rfl rfl rfl) ?_
  refine L.y rfl (Y.assign rfl) ?_
  refine L.nil (E.thenN (W.block (W.to (D := Cls w F [ar48 gP46 gP48 qP48 A48 [], ar46 gP46 qP46 A46 []]) (fun _ hw => hw.arShut (hs' := (a0.toNat :: [])) [0, 1, 2] eu1 (by decide) rfl (fun _ => List.mem_cons) List.not_mem_nil) ?_)))
  refine W.loopJ (fun m gs D => ∃ (gx1 : Int), gs = [(1, .int .i64 a1), (6, VP gP46 gx1)] ∧ D = Cls w F [ar48 gP46 gP48 qP48 A48 [], ar46 gP46 qP46 A46 []] ∧ m6_tree_Tree_Get_L1 a1 A46 m gx1 = some r) ⟨u1.root_, rfl, rfl, h⟩ ⟨rfl, rfl, trivial⟩ (fun _ hw => hw) ?_
  rintro m _ _ ⟨gx1, rfl, rfl, h⟩
  rcases m with _ | m
  · rw [m6_tree_Tree_Get_L1] at h; cases h
  rw [m6_tree_Tree_Get_L1] at h
  generalize hg1 : m6_tree_Tree_Get_L1 a1 A46 m = go1 at h
  rw [m6_tree_Tree_Get_L1B] at h
  refine W.block (W.seqJ (fun gs D => ∃ (gx2 : Int) (gb3 : Bool), gs = [(1, .int .i64 a1), (6, VP gP46 gx1), (7, .int .i64 gx2), (8, .bool gb3)] ∧ D = Cls w F [ar48 gP46 gP48 qP48 A48 [], ar46 gP46 qP46 A46 []] ∧ m6_tree_Tree_Get_K1 A46 gx1 go1 gx2 gb3 = some r) ?_ ?_)
  ·
   refine W.region (L.y rfl (Y.move rfl) ?_)
   refine L.y rfl (Y.move rfl) ?_
   refine L.to (D := Cls w F [ar46 gP46 qP46 A46 [], ar48 gP46 gP48 qP48 A48 []]) (fun _ hw => hw.sel [1, 0] (by decide) rfl) ?_
   obtain ⟨x7, b8, e9, h⟩ := bind2S h
   refine L.doesP (A := [ar46 gP46 qP46 A46 []]) (M := [ar48 gP46 gP48 qP48 A48 []]) rfl en15 rfl (fun w' hw => w15_tree_node_find gx1 a1 A46 gP46 qP46 w' _ e9 _ hw.lend) ?_
   rintro _ _ ⟨rfl, rfl⟩
   refine L.to (D := Cls w F [ar46 gP46 qP46 A46 [], ar48 gP46 gP48 qP48 A48 []]) (fun _ hw => hw) ?_
   refine L.y rfl (Y.move rfl) ?_
   refine L.y rfl (Y.extract rfl rfl) ?_
   refine L.iteB h rfl (Y.extract rfl rfl) (fun c10 h => ?_) (fun c10 h => ?_)
   ·
    refine L.y rfl (Y.assign rfl) ?_
    refine L.y rfl (Y.assign rfl) ?_
    exact L.nil (E.joinJ ⟨x7, true, rfl, rfl, h⟩ ⟨rfl, rfl, rfl, rfl, trivial⟩ (fun _ hw => hw.sel [1, 0] (by decide) rfl))
   ·
    refine L.y rfl (Y.assign rfl) ?_
    refine L.y rfl (Y.assign rfl) ?_
    exact L.nil (E.joinJ ⟨x7, false, rfl, rfl, h⟩ ⟨rfl, rfl, rfl, rfl, trivial⟩ (fun _ hw => hw.sel [1, 0] (by decide) rfl))
  ·
   rintro _ _ ⟨gx2, gb3, rfl, rfl, h⟩
   rw [m6_tree_Tree_Get_K1] at h
   rcases gb3 with _ | _
   ·
    replace h := iteF h
    refine W.seq (W.block (W.seq (W.region (L.y rfl (Y.move rfl) ?_))))
    refine L.y rfl (Y.assign rfl) ?_
    refine L.nil (E.thenN (W.condF rfl ?_))
    refine W.seq (W.region (L.y rfl (Y.move rfl) ?_))
    obtain ⟨u2, eu2, h⟩ := bind1S h
    refine L.to (D := Cls w F [.obj (gP46 gx1.toNat) [(gv (qP46 gx1.toNat) 0), (gv (qP46 gx1.toNat) 1), (gv (qP46 gx1.toNat) 2)] 46, .sl (gv (qP46 gx1.toNat) 0) 3 1 (u2.keys_.map I), .sl (gv (qP46 gx1.toNat) 1) 9 1 (u2.texts_.map SR), .sl (gv (qP46 gx1.toNat) 2) 42 1 (u2.kids_.map (PR gP46)), ar46 gP46 qP46 A46 (gx1.toNat :: []), ar48 gP46 gP48 qP48 A48 []]) (fun _ hw => hw.arOpen (p := 1) rfl eu2 List.not_mem_nil) ?_
    refine L.y rfl (Y.apNil rfl eu2) ?_
    refine L.y rfl (Y.fieldP fd46_2 rfl) ?_
    refine L.y rfl (Y.loadP (i := 0) ag44 rfl rfl rfl) ?_
    refine L.y rfl (Y.lenM (g := (PR gP46)) (l := u2.kids_) Try.underlying44 rfl (fun w hw => As.at_ (hw.get (i := 3) rfl))) ?_
    refine L.ite h rfl (Y.eql rfl rfl) (fun c3 h => ?_) (fun c3 h => ?_)
    ·
     refine L.y rfl (Y.assign rfl) ?_
     refine L.nil (E.thenN (W.condT rfl ?_))
     refine W.seq (W.region (L.y rfl (Y.assign rfl) ?_))
     refine L.y rfl (Y.assign rfl) ?_
     refine L.nil (E.thenN (W.ret (E.blockR (E.thenR (E.blockR (E.KLR (E.blockR (E.to (D := Cls w F [ar46 gP46 qP46 A46 [], ar48 gP46 gP48 qP48 A48 []]) (fun _ hw => hw.arShut (hs' := (gx1.toNat :: [])) [0, 1, 2, 3, 4, 5] eu2 (by decide) rfl (fun _ => List.mem_cons) List.not_mem_nil) ?_))))))))
     refine E.ret2 rfl rfl rfl (fun w1 hw => ?_)
     obtain rfl := Option.some.inj h
     exact ⟨_, _, rfl, ⟨rfl, rfl⟩, hw⟩
    ·
     refine L.y rfl (Y.assign rfl) ?_
     refine L.nil (E.thenN (W.condF rfl ?_))
     refine W.skip (E.blockN (E.thenN (W.region (L.y rfl (Y.move rfl) ?_))))
     refine L.y rfl (Y.apNil rfl eu2) ?_
     refine L.y rfl (Y.fieldP fd46_2 rfl) ?_
     refine L.y rfl (Y.loadP (i := 0) ag44 rfl rfl rfl) ?_
     refine L.y rfl (Y.move rfl) ?_
     refine L.m (V := fun _ => el (gv (qP46 gx1.toNat) 2) (gx2.toNat * 1)) h rfl (Y.indexM (g := (PR gP46)) (l := u2.kids_) Try.underlying44 sz42 rfl rfl (fun w hw => As.at_ (hw.get (i := 3) rfl))) (fun x4 ex4 h => ?_)
     refine L.y rfl (Y.loadE1 (u := VP gP46 x4) ag42 rfl (fun w hw => As.at_ (hw.get (i := 3) rfl)) (idx_map ex4)) ?_
     refine L.y rfl (Y.assign rfl) ?_
     refine L.nil (E.blockN (E.to (D := Cls w F [ar46 gP46 qP46 A46 [], ar48 gP46 gP48 qP48 A48 []]) (fun _ hw => hw.arShut (hs' := (gx1.toNat :: [])) [0, 1, 2, 3, 4, 5] eu2 (by decide) rfl (fun _ => List.mem_cons) List.not_mem_nil) ?_))
     exact E.againJ ⟨x4, rfl, rfl, by rw [hg1]; exact h⟩ (Nat.lt_succ_self _) ⟨rfl, rfl, trivial⟩ (fun _ hw => hw.sel [1, 0] (by decide) rfl)
   ·
    replace h := iteT h
    refine W.seq (W.block (W.seq (W.region (L.y rfl (Y.move rfl) ?_))))
    refine L.y rfl (Y.assign rfl) ?_
    refine L.nil (E.thenN (W.condT rfl ?_))
    refine W.seq (W.region (L.y rfl (Y.move rfl) ?_))
    obtain ⟨u5, eu5, h⟩ := bind1S h
    refine L.to (D := Cls w F [.obj (gP46 gx1.toNat) [(gv (qP46 gx1.toNat) 0), (gv (qP46 gx1.toNat) 1), (gv (qP46 gx1.toNat) 2)] 46, .sl (gv (qP46 gx1.toNat) 0) 3 1 (u5.keys_.map I), .sl (gv (qP46 gx1.toNat) 1) 9 1 (u5.texts_.map SR), .sl (gv (qP46 gx1.toNat) 2) 42 1 (u5.kids_.map (PR gP46)), ar46 gP46 qP46 A46 (gx1.toNat :: []), ar48 gP46 gP48 qP48 A48 []]) (fun _ hw => hw.arOpen (p := 1) rfl eu5 List.not_mem_nil) ?_
    refine L.y rfl (Y.apNil rfl eu5) ?_
    refine L.y rfl (Y.fieldP fd46_1 rfl) ?_
    refine L.y rfl (Y.loadP (i := 0) ag43 rfl rfl rfl) ?_
    refine L.y rfl (Y.move rfl) ?_
    refine L.m (V := fun _ => el (gv (qP46 gx1.toNat) 1) (gx2.toNat * 1)) h rfl (Y.indexM (g := SR) (l := u5.texts_) Try.underlying43 sz9 rfl rfl (fun w hw => As.at_ (hw.get (i := 2) rfl))) (fun x6 ex6 h => ?_)
    refine L.y rfl (Y.loadE1 (u := st x6) ag9 rfl (fun w hw => As.at_ (hw.get (i := 2) rfl)) (idx_map ex6)) ?_
    refine L.y rfl (Y.assign rfl) ?_
    refine L.y rfl (Y.assign rfl) ?_
    refine L.nil (E.thenN (W.ret (E.blockR (E.thenR (E.blockR (E.KLR (E.blockR (E.to (D := Cls w F [ar46 gP46 qP46 A46 [], ar48 gP46 gP48 qP48 A48 []]) (fun _ hw => hw.arShut (hs' := (gx1.toNat :: [])) [0, 1, 2, 3, 4, 5] eu5 (by decide) rfl (fun _ => List.mem_cons) List.not_mem_nil) ?_))))))))
    refine E.ret2 rfl rfl rfl (fun w1 hw => ?_)
    obtain rfl := Option.some.inj h
    exact ⟨_, _, rfl, ⟨rfl, rfl⟩, hw⟩
set_option maxRecDepth 100000 in
set_option maxHeartbeats 8000000 in
theorem w34_tree_node_right (a0 : Int) (a1 : Int) (A46 : (List Tnode)) (H : (List Nat)) (gP46 : Nat → Nat) (qP46 : Nat → List Value) (w : World) (r : (List Tnode)) (h : m34_tree_node_right a0 a1 A46 H = some r) (F : List Nat) (hc0 : Cls w F [ar46 gP46 qP46 A46 H] w) : DoesF Try.prog 34 [VP gP46 a0, .int .i64 a1] F w fun u m => ∃ Q46, u = .tuple #[] ∧ m = [ar46 gP46 Q46 r H] := by
  rw [m34_tree_node_right] at h
  refine body (n := 137) Try.func34 rfl rfl rfl hc0 ?_
  refine W.seq ?_
  obtain ⟨u1, eu1, h⟩ := bind1S h
  obtain ⟨_, c2, h⟩ := bind1S h
  refine W.to (D := Cls w F [.obj (gP46 a0.toNat) [(gv (qP46 a0.toNat) 0), (gv (qP46 a0.toNat) 1), (gv (qP46 a0.toNat) 2)] 46, .sl (gv (qP46 a0.toNat) 0) 3 1 (u1.keys_.map I), .sl (gv (qP46 a0.toNat) 1) 9 1 (u1.texts_.map SR), .sl (gv (qP46 a0.toNat) 2) 42 1 (u1.kids_.map (PR gP46)), ar46 gP46 qP46 A46 (a0.toNat :: H)]) (fun _ hw => hw.arOpen (p := 0) rfl eu1 (ck_some c2)) ?_
  refine W.quietC mixed (by kernel_rfl) (fun _ hw => hw.drew) (fun hC => ?_)
  refine U.y rfl (Y.move rfl) ?_
  refine U.y rfl (Y.apNil rfl eu1) ?_
  refine U.y rfl (Y.fieldP fd46_2 rfl) ?_
  refine U.y rfl (Y.loadP (i := 0) ag44 rfl rfl rfl) ?_
  refine U.y rfl (Y.move rfl) ?_
  refine U.m (V := fun _ => el (gv (qP46 a0.toNat) 2) (a1.toNat * 1)) h rfl (Y.indexM (g := (PR gP46)) (l := u1.kids_) Try.underlying44 sz42 rfl rfl (fun w hw => As.at_ (hw.get (i := 3) rfl))) (fun x3 ex3 h => ?_)
  refine U.y rfl (Y.loadE1 (u := VP gP46 x3) ag42 rfl (fun w hw => As.at_ (hw.get (i := 3) rfl)) (idx_map ex3)) ?_
  refine U.y rfl (Y.move rfl) ?_
  refine U.y rfl (Y.apNil rfl eu1) ?_
  refine U.y rfl (Y.fieldP fd46_2 rfl) ?_
  refine U.y rfl (Y.loadP (i := 0) ag44 rfl rfl rfl) ?_
  refine U.y rfl (Y.move rfl) ?_
  refine U.m (V := fun x4 => .int .i64 x4) h rfl (Y.addM rfl rfl) (fun x4 ex4 h => ?_)
  refine U.m (V := fun _ => el (gv (qP46 a0.toNat) 2) (x4.toNat * 1)) h rfl (Y.indexM (g := (PR gP46)) (l := u1.kids_) Try.underlying44 sz42 rfl rfl (fun w hw => As.at_ (hw.get (i := 3) rfl))) (fun x5 ex5 h => ?_)
  refine U.y rfl (Y.loadE1 (u := VP gP46 x5) ag42 rfl (fun w hw => As.at_ (hw.get (i := 3) rfl)) (idx_map ex5)) ?_
  refine U.y rfl (Y.assign rfl) ?_
  refine U.y rfl (Y.assign rfl) ?_
  refine U.nil (E.thenN (W.seq (W.region (L.y rfl (Y.move rfl) ?_))))
  obtain ⟨_, c6, h⟩ := bind1S h
  refine L.to (D := Cls w F [ar46 gP46 qP46 A46 H]) (fun _ hw => hw.arShut (hs' := (a0.toNat :: H)) [0, 1, 2, 3, 4] eu1 (by decide) rfl (fun _ => List.mem_cons) (ck_some c6)) ?_
  obtain ⟨u7, eu7, h⟩ := bind1S h
  obtain ⟨_, c8, h⟩ := bind1S h
  refine L.to (D := Cls w F [.obj (gP46 x3.toNat) [(gv (qP46 x3.toNat) 0), (gv (qP46 x3.toNat) 1), (gv (qP46 x3.toNat) 2)] 46, .sl (gv (qP46 x3.toNat) 0) 3 1 (u7.keys_.map I), .sl (gv (qP46 x3.toNat) 1) 9 1 (u7.texts_.map SR), .sl (gv (qP46 x3.toNat) 2) 42 1 (u7.kids_.map (PR gP46)), ar46 gP46 qP46 A46 (x3.toNat :: H)]) (fun _ hw => hw.arOpen (p := 0) rfl eu7 (ck_some c8)) ?_
  refine L.y rfl (Y.apNil rfl eu7) ?_
  refine L.y rfl (Y.fieldP fd46_0 rfl) ?_
  refine L.y rfl (Y.loadP (i := 0) ag25 rfl rfl rfl) ?_
  refine L.y rfl (Y.lenM (g := I) (l := u7.keys_) Try.underlying25 rfl (fun w hw => As.at_ (hw.get (i := 1) rfl))) ?_
  refine L.m (V := fun x9 => .int .i64 x9) h rfl (Y.subM rfl rfl) (fun x9 ex9 h => ?_)
  refine L.y rfl (Y.assign rfl) ?_
  refine L.nil (E.thenN (W.seqJ (fun gs D => ∃ (gl1 : (List Tnode)) (gq2 : Nat → List Value), gs = [(0, VP gP46 a0), (1, .int .i64 a1), (4, VP gP46 x3), (5, VP gP46 x5), (6, .int .i64 x9)] ∧ D = Cls w F [ar46 gP46 gq2 gl1 H] ∧ m34_tree_node_right_K1 a0 H x3 x9 a1 x5 gl1 = some r) ?_ ?_))
  ·
   obtain ⟨_, c107, h⟩ := bind1S h
   refine W.to (D := Cls w F [ar46 gP46 qP46 A46 H]) (fun _ hw => hw.arShut (hs' := (x3.toNat :: H)) [0, 1, 2, 3, 4] eu7 (by decide) rfl (fun _ => List.mem_cons) (ck_some c107)) ?_
   obtain ⟨u108, eu108, h⟩ := bind1S h
   obtain ⟨_, c109, h⟩ := bind1S h
   refine W.to (D := Cls w F [.obj (gP46 x5.toNat) [(gv (qP46 x5.toNat) 0), (gv (qP46 x5.toNat) 1), (gv (qP46 x5.toNat) 2)] 46, .sl (gv (qP46 x5.toNat) 0) 3 1 (u108.keys_.map I), .sl (gv (qP46 x5.toNat) 1) 9 1 (u108.texts_.map SR), .sl (gv (qP46 x5.toNat) 2) 42 1 (u108.kids_.map (PR gP46)), ar46 gP46 qP46 A46 (x5.toNat :: H)]) (fun _ hw => hw.arOpen (p := 0) rfl eu108 (ck_some c109)) ?_
   obtain ⟨u110, eu110, h⟩ := bind1S h
   obtain ⟨_, c111, h⟩ := bind1S h
   obtain ⟨_, c112, h⟩ := bind1S h
   refine W.to (D := Cls w F [.obj (gP46 a0.toNat) [(gv (qP46 a0.toNat) 0), (gv (qP46 a0.toNat) 1), (gv (qP46 a0.toNat) 2)] 46, .sl (gv (qP46 a0.toNat) 0) 3 1 (u110.keys_.map I), .sl (gv (qP46 a0.toNat) 1) 9 1 (u110.texts_.map SR), .sl (gv (qP46 a0.toNat) 2) 42 1 (u110.kids_.map (PR gP46)), ar46 gP46 qP46 A46 (a0.toNat :: x5.toNat :: H), .obj (gP46 x5.toNat) [(gv (qP46 x5.toNat) 0), (gv (qP46 x5.toNat) 1), (gv (qP46 x5.toNat) 2)] 46, .sl (gv (qP46 x5.toNat) 0) 3 1 (u108.keys_.map I), .sl (gv (qP46 x5.toNat) 1) 9 1 (u108.texts_.map SR), .sl (gv (qP46 x5.toNat) 2) 42 1 (u108.kids_.map (PR gP46))]) (fun _ hw => hw.arOpen (p := 4) rfl eu110 (nin1 (ck_some c112) eu110 eu108 (ck_some c111))) ?_
   refine W.drawn2 (k := 34) (stC [[14, 27, 30], [27, 30], [30]] [Cls w F [.obj (gP46 a0.toNat) [(gv (qP46 a0.toNat) 0), (gv (qP46 a0.toNat) 1), (gv (qP46 a0.toNat) 2)] 46, .sl (gv (qP46 a0.toNat) 0) 3 1 (u110.keys_.map I), .sl (gv (qP46 a0.toNat) 1) 9 1 (u110.texts_.map SR), .sl (gv (qP46 a0.toNat) 2) 42 1 (u110.kids_.map (PR gP46)), ar46 gP46 qP46 A46 (a0.toNat :: x5.toNat :: H), .obj (gP46 x5.toNat) [(gv (qP46 x5.toNat) 0), (gv (qP46 x5.toNat) 1), (gv (qP46 x5.toNat) 2)] 46, .sl (gv (qP46 x5.toNat) 0) 3 1 (u108.keys_.map I), .sl (gv (qP46 x5.toNat) 1) 9 1 (u108.texts_.map SR), .sl (gv (qP46 x5.toNat) 2) 42 1 (u108.kids_.map (PR gP46))], Cls w F [.obj (gP46 a0.toNat) [(gv (qP46 a0.toNat) 0), (gv (qP46 a0.toNat) 1), (gv (qP46 a0.toNat) 2)] 46, .sl (gv (qP46 a0.toNat) 0) 3 1 (u110.keys_.map I), .sl (gv (qP46 a0.toNat) 1) 9 1 (u110.texts_.map SR), .sl (gv (qP46 a0.toNat) 2) 42 1 (u110.kids_.map (PR gP46)), ar46 gP46 qP46 A46 (a0.toNat :: x5.toNat :: H), .obj (gP46 x5.toNat) [(gv (qP46 x5.toNat) 0), (gv (qP46 x5.toNat) 1), (gv (qP46 x5.toNat) 2)] 46, .sl (gv (qP46 x5.toNat) 1) 9 1 (u108.texts_.map SR), .sl (gv (qP46 x5.toNat) 2) 42 1 (u108.kids_.map (PR gP46))], Cls w F [.obj (gP46 a0.toNat) [(gv (qP46 a0.toNat) 0), (gv (qP46 a0.toNat) 1), (gv (qP46 a0.toNat) 2)] 46, .sl (gv (qP46 a0.toNat) 0) 3 1 (u110.keys_.map I), .sl (gv (qP46 a0.toNat) 1) 9 1 (u110.texts_.map SR), .sl (gv (qP46 a0.toNat) 2) 42 1 (u110.kids_.map (PR gP46)), ar46 gP46 qP46 A46 (a0.toNat :: x5.toNat :: H), .obj (gP46 x5.toNat) [(gv (qP46 x5.toNat) 0), (gv (qP46 x5.toNat) 1), (gv (qP46 x5.toNat) 2)] 46, .sl (gv (qP46 x5.toNat) 2) 42 1 (u108.kids_.map (PR gP46))]] (Cls w F [.obj (gP46 a0.toNat) [(gv (qP46 a0.toNat) 0), (gv (qP46 a0.toNat) 1), (gv (qP46 a0.toNat) 2)] 46, .sl (gv (qP46 a0.toNat) 0) 3 1 (u110.keys_.map I), .sl (gv (qP46 a0.toNat) 1) 9 1 (u110.texts_.map SR), .sl (gv (qP46 a0.toNat) 2) 42 1 (u110.kids_.map (PR gP46)), ar46 gP46 qP46 A46 (a0.toNat :: x5.toNat :: H), .sl (gv (qP46 x5.toNat) 2) 42 1 (u108.kids_.map (PR gP46))])) rfl mixed (fun _ hw => hw.drew) (Sc.now (by kernel_rfl) (fun _ hw => hw)) ?_
   refine V2.zz [] (Zc.on' (Zc.on' (Zc.on' (Zc.fin (fun _ hw => hw)) (fun _ hw => hw.sel [0, 1, 2, 3, 4, 6] (by decide) rfl)) (fun _ hw => hw.sel [0, 1, 2, 3, 4, 7] (by decide) rfl)) (fun _ hw => hw.sel [0, 1, 2, 3, 4, 8] (by decide) rfl)) (fun hz138 => ?_)
   refine V2.y (i := 0) (Nx2.of [] (by kernel_rfl) rfl hz138) rfl rfl rfl (Y.move rfl) ?_
   refine V2.y (i := 1) (Nx2.of [] (by kernel_rfl) rfl hz138) rfl rfl rfl (Y.move rfl) ?_
   refine V2.y (i := 2) (Nx2.of [] (by kernel_rfl) rfl hz138) rfl rfl rfl (Y.move rfl) ?_
   refine V2.apNil (i := 3) (Nx2.of [] (by kernel_rfl) rfl hz138) rfl rfl rfl eu108 ?_
   refine V2.y (i := 4) (Nx2.of [] (by kernel_rfl) rfl hz138) rfl rfl rfl (Y.fieldP fd46_0 rfl) ?_
   refine V2.zz [30] (Zc.on' (Zc.on' (Zc.at1 (fun _ hw => hw)) (fun _ hw => hw.sel [0, 1, 2, 3, 4, 5, 7] (by decide) rfl)) (fun _ hw => hw.sel [0, 1, 2, 3, 4, 5, 8] (by decide) rfl)) (fun hz139 => ?_)
   refine V2.y (i := 5) (Nx2.of [30] (by kernel_rfl) rfl hz139) rfl rfl rfl (Y.loadP (i := 5) ag25 rfl rfl rfl) ?_
   refine V2.y (i := 6) (Nx2.of [] (by kernel_rfl) rfl hz138) rfl rfl rfl (Y.move rfl) ?_
   refine V2.apNil (i := 7) (Nx2.of [] (by kernel_rfl) rfl hz138) rfl rfl rfl eu110 ?_
   refine V2.y (i := 8) (Nx2.of [] (by kernel_rfl) rfl hz138) rfl rfl rfl (Y.fieldP fd46_0 rfl) ?_
   refine V2.y (i := 9) (Nx2.of [] (by kernel_rfl) rfl hz138) rfl rfl rfl (Y.loadP (i := 0) ag25 rfl rfl rfl) ?_
   refine V2.y (i := 10) (Nx2.of [] (by kernel_rfl) rfl hz138) rfl rfl rfl (Y.move rfl) ?_
   refine V2.m (i := 11) (V' := fun _ => el (gv (qP46 a0.toNat) 0) (a1.toNat * 1)) h (Nx2.of [] (by kernel_rfl) rfl hz138) rfl rfl rfl (Y.indexM (g := I) (l := u110.keys_) Try.underlying25 sz3 rfl rfl (fun w hw => As.at_ (hw.get (i := 1) rfl))) (fun x140 ex140 h => ?_)
   refine V2.y (i := 12) (Nx2.of [] (by kernel_rfl) rfl hz138) rfl rfl rfl (Y.loadE1 (u := .int .i64 x140) ag3 rfl (fun w hw => As.at_ (hw.get (i := 1) rfl)) (idx_map ex140)) ?_
   refine V2.y (i := 15) (Nx2.of [] (by kernel_rfl) rfl hz138) rfl rfl rfl (Y.move rfl) ?_
   refine V2.apNil (i := 16) (Nx2.of [] (by kernel_rfl) rfl hz138) rfl rfl rfl eu108 ?_
   refine V2.y (i := 17) (Nx2.of [] (by kernel_rfl) rfl hz138) rfl rfl rfl (Y.fieldP fd46_1 rfl) ?_
   refine V2.y (i := 18) (Nx2.of [30] (by kernel_rfl) rfl hz139) rfl rfl rfl (Y.loadP (i := 5) ag43 rfl rfl rfl) ?_
   refine V2.y (i := 19) (Nx2.of [] (by kernel_rfl) rfl hz138) rfl rfl rfl (Y.move rfl) ?_
   refine V2.apNil (i := 20) (Nx2.of [] (by kernel_rfl) rfl hz138) rfl rfl rfl eu110 ?_
   refine V2.y (i := 21) (Nx2.of [] (by kernel_rfl) rfl hz138) rfl rfl rfl (Y.fieldP fd46_1 rfl) ?_
   refine V2.y (i := 22) (Nx2.of [] (by kernel_rfl) rfl hz138) rfl rfl rfl (Y.loadP (i := 0) ag43 rfl rfl rfl) ?_
   refine V2.y (i := 23) (Nx2.of [] (by kernel_rfl) rfl hz138) rfl rfl rfl (Y.move rfl) ?_
   refine V2.m (i := 24) (V' := fun _ => el (gv (qP46 a0.toNat) 1) (a1.toNat * 1)) h (Nx2.of [] (by kernel_rfl) rfl hz138) rfl rfl rfl (Y.indexM (g := SR) (l := u110.texts_) Try.underlying43 sz9 rfl rfl (fun w hw => As.at_ (hw.get (i := 2) rfl))) (fun x141 ex141 h => ?_)
   refine V2.y (i := 25) (Nx2.of [] (by kernel_rfl) rfl hz138) rfl rfl rfl (Y.loadE1 (u := st x141) ag9 rfl (fun w hw => As.at_ (hw.get (i := 2) rfl)) (idx_map ex141)) ?_
   refine V2.eff2 (i1 := 13) (i2 := 26) (by kernel_rfl) rfl rfl ?_ ?_
   ·
    refine L.litOne rfl Try.underlying25 eL3 rfl rfl ?_
    intro b142
    refine L.nil (E.toV2 (stC [[14, 27, 30], [27, 30], [30]] [Cls w F [.sl (sv b142 1) 3 1 (([x140]).map I), .obj (gP46 a0.toNat) [(gv (qP46 a0.toNat) 0), (gv (qP46 a0.toNat) 1), (gv (qP46 a0.toNat) 2)] 46, .sl (gv (qP46 a0.toNat) 0) 3 1 (u110.keys_.map I), .sl (gv (qP46 a0.toNat) 1) 9 1 (u110.texts_.map SR), .sl (gv (qP46 a0.toNat) 2) 42 1 (u110.kids_.map (PR gP46)), ar46 gP46 qP46 A46 (a0.toNat :: x5.toNat :: H), .obj (gP46 x5.toNat) [(gv (qP46 x5.toNat) 0), (gv (qP46 x5.toNat) 1), (gv (qP46 x5.toNat) 2)] 46, .sl (gv (qP46 x5.toNat) 0) 3 1 (u108.keys_.map I), .sl (gv (qP46 x5.toNat) 1) 9 1 (u108.texts_.map SR), .sl (gv (qP46 x5.toNat) 2) 42 1 (u108.kids_.map (PR gP46))], Cls w F [.sl (sv b142 1) 3 1 (([x140]).map I), .obj (gP46 a0.toNat) [(gv (qP46 a0.toNat) 0), (gv (qP46 a0.toNat) 1), (gv (qP46 a0.toNat) 2)] 46, .sl (gv (qP46 a0.toNat) 0) 3 1 (u110.keys_.map I), .sl (gv (qP46 a0.toNat) 1) 9 1 (u110.texts_.map SR), .sl (gv (qP46 a0.toNat) 2) 42 1 (u110.kids_.map (PR gP46)), ar46 gP46 qP46 A46 (a0.toNat :: x5.toNat :: H), .obj (gP46 x5.toNat) [(gv (qP46 x5.toNat) 0), (gv (qP46 x5.toNat) 1), (gv (qP46 x5.toNat) 2)] 46, .sl (gv (qP46 x5.toNat) 1) 9 1 (u108.texts_.map SR), .sl (gv (qP46 x5.toNat) 2) 42 1 (u108.kids_.map (PR gP46))], Cls w F [.sl (sv b142 1) 3 1 (([x140]).map I), .obj (gP46 a0.toNat) [(gv (qP46 a0.toNat) 0), (gv (qP46 a0.toNat) 1), (gv (qP46 a0.toNat) 2)] 46, .sl (gv (qP46 a0.toNat) 0) 3 1 (u110.keys_.map I), .sl (gv (qP46 a0.toNat) 1) 9 1 (u110.texts_.map SR), .sl (gv (qP46 a0.toNat) 2) 42 1 (u110.kids_.map (PR gP46)), ar46 gP46 qP46 A46 (a0.toNat :: x5.toNat :: H), .obj (gP46 x5.toNat) [(gv (qP46 x5.toNat) 0), (gv (qP46 x5.toNat) 1), (gv (qP46 x5.toNat) 2)] 46, .sl (gv (qP46 x5.toNat) 2) 42 1 (u108.kids_.map (PR gP46))]] (Cls w F [.sl (sv b142 1) 3 1 (([x140]).map I), .obj (gP46 a0.toNat) [(gv (qP46 a0.toNat) 0), (gv (qP46 a0.toNat) 1), (gv (qP46 a0.toNat) 2)] 46, .sl (gv (qP46 a0.toNat) 0) 3 1 (u110.keys_.map I), .sl (gv (qP46 a0.toNat) 1) 9 1 (u110.texts_.map SR), .sl (gv (qP46 a0.toNat) 2) 42 1 (u110.kids_.map (PR gP46)), ar46 gP46 qP46 A46 (a0.toNat :: x5.toNat :: H), .sl (gv (qP46 x5.toNat) 2) 42 1 (u108.kids_.map (PR gP46))])) 13 (by kernel_rfl) (Sc.stay (fun _ hw => hw.sel [1, 2, 3, 4, 5, 6, 7, 8, 9] (by decide) rfl) (Sc.stay (fun _ hw => hw.sel [1, 2, 3, 4, 5, 6, 7, 8] (by decide) rfl) (Sc.stay (fun _ hw => hw.sel [1, 2, 3, 4, 5, 6, 7] (by decide) rfl) (Sc.stayD (fun _ hw => hw.sel [1, 2, 3, 4, 5, 6] (by decide) rfl))))) (Sc.now (by kernel_rfl) (fun _ hw => hw)) ?_)
    refine V2.eff2 (i1 := 14) (i2 := 26) (by kernel_rfl) rfl rfl ?_ ?_
    ·
     refine L.insRD (i := 7) (j := 0) (l := u108.keys_) (x1 := x140) (a := 0) h wInsR10 (fun _ => rfl) rfl en10 rfl rfl rfl rfl rfl (by decide) ?_
     intro v144 l143 el143 h
     refine L.nil (E.toV2 (stC [[27, 30], [30]] [Cls w F [.sl (sv b142 1) 3 1 (([x140]).map I), .obj (gP46 a0.toNat) [(gv (qP46 a0.toNat) 0), (gv (qP46 a0.toNat) 1), (gv (qP46 a0.toNat) 2)] 46, .sl (gv (qP46 a0.toNat) 0) 3 1 (u110.keys_.map I), .sl (gv (qP46 a0.toNat) 1) 9 1 (u110.texts_.map SR), .sl (gv (qP46 a0.toNat) 2) 42 1 (u110.kids_.map (PR gP46)), ar46 gP46 qP46 A46 (a0.toNat :: x5.toNat :: H), .obj (gP46 x5.toNat) [(gv (qP46 x5.toNat) 0), (gv (qP46 x5.toNat) 1), (gv (qP46 x5.toNat) 2)] 46, .sl v144 3 1 (l143.map I), .sl (gv (qP46 x5.toNat) 1) 9 1 (u108.texts_.map SR), .sl (gv (qP46 x5.toNat) 2) 42 1 (u108.kids_.map (PR gP46))], Cls w F [.sl (sv b142 1) 3 1 (([x140]).map I), .obj (gP46 a0.toNat) [(gv (qP46 a0.toNat) 0), (gv (qP46 a0.toNat) 1), (gv (qP46 a0.toNat) 2)] 46, .sl (gv (qP46 a0.toNat) 0) 3 1 (u110.keys_.map I), .sl (gv (qP46 a0.toNat) 1) 9 1 (u110.texts_.map SR), .sl (gv (qP46 a0.toNat) 2) 42 1 (u110.kids_.map (PR gP46)), ar46 gP46 qP46 A46 (a0.toNat :: x5.toNat :: H), .obj (gP46 x5.toNat) [(gv (qP46 x5.toNat) 0), (gv (qP46 x5.toNat) 1), (gv (qP46 x5.toNat) 2)] 46, .sl v144 3 1 (l143.map I), .sl (gv (qP46 x5.toNat) 2) 42 1 (u108.kids_.map (PR gP46))]] (Cls w F [.sl (sv b142 1) 3 1 (([x140]).map I), .obj (gP46 a0.toNat) [(gv (qP46 a0.toNat) 0), (gv (qP46 a0.toNat) 1), (gv (qP46 a0.toNat) 2)] 46, .sl (gv (qP46 a0.toNat) 0) 3 1 (u110.keys_.map I), .sl (gv (qP46 a0.toNat) 1) 9 1 (u110.texts_.map SR), .sl (gv (qP46 a0.toNat) 2) 42 1 (u110.kids_.map (PR gP46)), ar46 gP46 qP46 A46 (a0.toNat :: x5.toNat :: H), .sl v144 3 1 (l143.map I), .sl (gv (qP46 x5.toNat) 2) 42 1 (u108.kids_.map (PR gP46))])) 14 (by kernel_rfl) (Sc.past rfl (Sc.stay (fun _ hw => hw.sel [0, 1, 2, 3, 4, 5, 6, 8, 9] (by decide) rfl) (Sc.stay (fun _ hw => hw.sel [0, 1, 2, 3, 4, 5, 6, 8] (by decide) rfl) (Sc.stayD (fun _ hw => hw.sel [0, 1, 2, 3, 4, 5, 7] (by decide) rfl))))) (Sc.now (by kernel_rfl) (fun _ hw => hw)) ?_)
     refine V2.eff (i := 26) (by kernel_rfl) rfl ?_
     refine L.litOne rfl Try.underlying43 eL9 rfl rfl ?_
     intro b145
     refine L.nil (E.toV2 (stC [[27, 30], [30]] [Cls w F [.sl (sv b145 1) 9 1 (([x141]).map SR), .sl (sv b142 1) 3 1 (([x140]).map I), .obj (gP46 a0.toNat) [(gv (qP46 a0.toNat) 0), (gv (qP46 a0.toNat) 1), (gv (qP46 a0.toNat) 2)] 46, .sl (gv (qP46 a0.toNat) 0) 3 1 (u110.keys_.map I), .sl (gv (qP46 a0.toNat) 1) 9 1 (u110.texts_.map SR), .sl (gv (qP46 a0.toNat) 2) 42 1 (u110.kids_.map (PR gP46)), ar46 gP46 qP46 A46 (a0.toNat :: x5.toNat :: H), .obj (gP46 x5.toNat) [(gv (qP46 x5.toNat) 0), (gv (qP46 x5.toNat) 1), (gv (qP46 x5.toNat) 2)] 46, .sl v144 3 1 (l143.map I), .sl (gv (qP46 x5.toNat) 1) 9 1 (u108.texts_.map SR), .sl (gv (qP46 x5.toNat) 2) 42 1 (u108.kids_.map (PR gP46))], Cls w F [.sl (sv b145 1) 9 1 (([x141]).map SR), .sl (sv b142 1) 3 1 (([x140]).map I), .obj (gP46 a0.toNat) [(gv (qP46 a0.toNat) 0), (gv (qP46 a0.toNat) 1), (gv (qP46 a0.toNat) 2)] 46, .sl (gv (qP46 a0.toNat) 0) 3 1 (u110.keys_.map I), .sl (gv (qP46 a0.toNat) 1) 9 1 (u110.texts_.map SR), .sl (gv (qP46 a0.toNat) 2) 42 1 (u110.kids_.map (PR gP46)), ar46 gP46 qP46 A46 (a0.toNat :: x5.toNat :: H), .obj (gP46 x5.toNat) [(gv (qP46 x5.toNat) 0), (gv (qP46 x5.toNat) 1), (gv (qP46 x5.toNat) 2)] 46, .sl v144 3 1 (l143.map I), .sl (gv (qP46 x5.toNat) 2) 42 1 (u108.kids_.map (PR gP46))]] (Cls w F [.sl (sv b145 1) 9 1 (([x141]).map SR), .sl (sv b142 1) 3 1 (([x140]).map I), .obj (gP46 a0.toNat) [(gv (qP46 a0.toNat) 0), (gv (qP46 a0.toNat) 1), (gv (qP46 a0.toNat) 2)] 46, .sl (gv (qP46 a0.toNat) 0) 3 1 (u110.keys_.map I), .sl (gv (qP46 a0.toNat) 1) 9 1 (u110.texts_.map SR), .sl (gv (qP46 a0.toNat) 2) 42 1 (u110.kids_.map (PR gP46)), ar46 gP46 qP46 A46 (a0.toNat :: x5.toNat :: H), .sl v144 3 1 (l143.map I), .sl (gv (qP46 x5.toNat) 2) 42 1 (u108.kids_.map (PR gP46))])) 26 (by kernel_rfl) (Sc.stay (fun _ hw => hw.sel [1, 2, 3, 4, 5, 6, 7, 8, 9, 10] (by decide) rfl) (Sc.stay (fun _ hw => hw.sel [1, 2, 3, 4, 5, 6, 7, 8, 9] (by decide) rfl) (Sc.stayD (fun _ hw => hw.sel [1, 2, 3, 4, 5, 6, 7, 8] (by decide) rfl)))) (Sc.now (by kernel_rfl) (fun _ hw => hw)) ?_)
     refine V2.eff (i := 27) (by kernel_rfl) rfl ?_
     refine L.insRD (i := 9) (j := 0) (l := u108.texts_) (x1 := x141) (a := 0) h wInsR28 (fun _ => rfl) rfl en28 rfl rfl rfl rfl rfl (by decide) ?_
     intro v147 l146 el146 h
     refine L.nil (E.toV2 (stC [[30]] [Cls w F [.sl (sv b145 1) 9 1 (([x141]).map SR), .sl (sv b142 1) 3 1 (([x140]).map I), .obj (gP46 a0.toNat) [(gv (qP46 a0.toNat) 0), (gv (qP46 a0.toNat) 1), (gv (qP46 a0.toNat) 2)] 46, .sl (gv (qP46 a0.toNat) 0) 3 1 (u110.keys_.map I), .sl (gv (qP46 a0.toNat) 1) 9 1 (u110.texts_.map SR), .sl (gv (qP46 a0.toNat) 2) 42 1 (u110.kids_.map (PR gP46)), ar46 gP46 qP46 A46 (a0.toNat :: x5.toNat :: H), .obj (gP46 x5.toNat) [(gv (qP46 x5.toNat) 0), (gv (qP46 x5.toNat) 1), (gv (qP46 x5.toNat) 2)] 46, .sl v144 3 1 (l143.map I), .sl v147 9 1 (l146.map SR), .sl (gv (qP46 x5.toNat) 2) 42 1 (u108.kids_.map (PR gP46))]] (Cls w F [.sl (sv b145 1) 9 1 (([x141]).map SR), .sl (sv b142 1) 3 1 (([x140]).map I), .obj (gP46 a0.toNat) [(gv (qP46 a0.toNat) 0), (gv (qP46 a0.toNat) 1), (gv (qP46 a0.toNat) 2)] 46, .sl (gv (qP46 a0.toNat) 0) 3 1 (u110.keys_.map I), .sl (gv (qP46 a0.toNat) 1) 9 1 (u110.texts_.map SR), .sl (gv (qP46 a0.toNat) 2) 42 1 (u110.kids_.map (PR gP46)), ar46 gP46 qP46 A46 (a0.toNat :: x5.toNat :: H), .sl v144 3 1 (l143.map I), .sl v147 9 1 (l146.map SR), .sl (gv (qP46 x5.toNat) 2) 42 1 (u108.kids_.map (PR gP46))])) 27 (by kernel_rfl) (Sc.past rfl (Sc.stay (fun _ hw => hw.sel [0, 1, 2, 3, 4, 5, 6, 7, 8, 10] (by decide) rfl) (Sc.stayD (fun _ hw => hw.sel [0, 1, 2, 3, 4, 5, 6, 7, 9] (by decide) rfl)))) (Sc.now (by kernel_rfl) (fun _ hw => hw)) ?_)
     refine V2.zz [] (Zc.on' (Zc.fin (fun _ hw => hw)) (fun _ hw => hw.sel [0, 1, 2, 3, 4, 5, 6, 8, 9, 10] (by decide) rfl)) (fun hz148 => ?_)
     refine V2.apNil (i := 28) (Nx2.of [] (by kernel_rfl) rfl hz148) rfl rfl rfl eu108 ?_
     refine V2.y (i := 29) (Nx2.of [] (by kernel_rfl) rfl hz148) rfl rfl rfl (Y.fieldP fd46_0 rfl) ?_
     refine V2.eff (i := 30) (by kernel_rfl) rfl ?_
     refine L.storeV (i := 7) sz25 rfl rfl (fun _ hw => (As.at_ (hw.get (i := 8) rfl)).one) rfl (Nat.le_of_ble_eq_true rfl) ?_
     refine L.nil (E.toV2 (stC [] [] (Cls w F [.sl (sv b145 1) 9 1 (([x141]).map SR), .sl (sv b142 1) 3 1 (([x140]).map I), .obj (gP46 a0.toNat) [(gv (qP46 a0.toNat) 0), (gv (qP46 a0.toNat) 1), (gv (qP46 a0.toNat) 2)] 46, .sl (gv (qP46 a0.toNat) 0) 3 1 (u110.keys_.map I), .sl (gv (qP46 a0.toNat) 1) 9 1 (u110.texts_.map SR), .sl (gv (qP46 a0.toNat) 2) 42 1 (u110.kids_.map (PR gP46)), ar46 gP46 qP46 A46 (a0.toNat :: x5.toNat :: H), .sl v144 3 1 (l143.map I), .sl v147 9 1 (l146.map SR), .sl (gv (qP46 x5.toNat) 2) 42 1 (u108.kids_.map (PR gP46))])) 30 (by kernel_rfl) (Sc.past rfl (Sc.stayD (fun _ hw => hw))) (Sc.atD (fun _ hw => hw.sel [0, 1, 2, 3, 4, 5, 6, 8, 9, 10] (by decide) rfl)) ?_)
     refine V2.zz [] (Zc.fin (fun _ hw => hw)) (fun hz149 => ?_)
     refine V2.apNil (i := 31) (Nx2.of [] (by kernel_rfl) rfl hz149) rfl rfl rfl eu108 ?_
     refine V2.y (i := 32) (Nx2.of [] (by kernel_rfl) rfl hz149) rfl rfl rfl (Y.fieldP fd46_1 rfl) ?_
     refine V2.eff (i := 33) (by kernel_rfl) rfl ?_
     refine L.storeV (i := 7) sz43 rfl rfl (fun _ hw => (As.at_ (hw.get (i := 9) rfl)).one) rfl (Nat.le_of_ble_eq_true rfl) ?_
     refine L.nil (E.toV2 (stC [] [] (Cls w F [.sl (sv b145 1) 9 1 (([x141]).map SR), .sl (sv b142 1) 3 1 (([x140]).map I), .obj (gP46 a0.toNat) [(gv (qP46 a0.toNat) 0), (gv (qP46 a0.toNat) 1), (gv (qP46 a0.toNat) 2)] 46, .sl (gv (qP46 a0.toNat) 0) 3 1 (u110.keys_.map I), .sl (gv (qP46 a0.toNat) 1) 9 1 (u110.texts_.map SR), .sl (gv (qP46 a0.toNat) 2) 42 1 (u110.kids_.map (PR gP46)), ar46 gP46 qP46 A46 (a0.toNat :: x5.toNat :: H), .sl v144 3 1 (l143.map I), .sl v147 9 1 (l146.map SR), .sl (gv (qP46 x5.toNat) 2) 42 1 (u108.kids_.map (PR gP46))])) 33 (by kernel_rfl) (Sc.stayD (fun _ hw => hw)) (Sc.atD (fun _ hw => hw.sel [0, 1, 2, 3, 4, 5, 6, 8, 9, 10] (by decide) rfl)) ?_)
     refine V2.done (by kernel_rfl) ?_
     obtain ⟨_, c150, h⟩ := bind1S h
     refine E.to (D := Cls w F [ar46 gP46 qP46 A46 (x5.toNat :: H), .sl (sv b145 1) 9 1 (([x141]).map SR), .sl (sv b142 1) 3 1 (([x140]).map I), .obj (gP46 x5.toNat) [v144, v147, (gv (qP46 x5.toNat) 2)] 46, .sl v144 3 1 (l143.map I), .sl v147 9 1 (l146.map SR), .sl (gv (qP46 x5.toNat) 2) 42 1 (u108.kids_.map (PR gP46))]) (fun _ hw => hw.arShut (hs' := (a0.toNat :: x5.toNat :: H)) [2, 3, 4, 5, 6, 0, 1, 7, 8, 9, 10] eu110 (by decide) rfl (fun _ => List.mem_cons) (nin1 (ck_some c112) eu110 eu108 (ck_some c150))) ?_
     obtain ⟨_, c151, h⟩ := bind1S h
     obtain ⟨l152, el152, h⟩ := bind1S h
     refine E.arClose (row := Tnode.rowA gP46) (sub := Tnode.subA gP46) (e := 46) (g := gP46) (gh := qP46) (vs' := [v144, v147, (gv (qP46 x5.toNat) 2)]) (hs := H) (hs' := (x5.toNat :: H)) (m' := [.sl (sv b145 1) 9 1 (([x141]).map SR), .sl (sv b142 1) 3 1 (([x140]).map I)]) [3, 4, 5, 6, 0, 1, 2] el152 (by decide) rfl (fun _ => List.mem_cons) (ck_some c151) ?_
     intro q153
     refine E.to (D := Cls w F [ar46 gP46 q153 l152 H, .sl (sv b145 1) 9 1 (([x141]).map SR), .sl (sv b142 1) 3 1 (([x140]).map I)]) (fun _ hw => hw) ?_
     exact E.joinJ ⟨l152, q153, rfl, rfl, h⟩ ⟨rfl, rfl, rfl, rfl, rfl, trivial⟩ (fun _ hw => hw.sel [0] (by decide) rfl)
    ·
     refine L.litOne rfl Try.underlying43 eL9 rfl rfl ?_
     intro b154
     refine L.nil (E.toV2 (stC [[14, 27, 30], [27, 30], [30]] [Cls w F [.sl (sv b154 1) 9 1 (([x141]).map SR), .sl (sv b142 1) 3 1 (([x140]).map I), .obj (gP46 a0.toNat) [(gv (qP46 a0.toNat) 0), (gv (qP46 a0.toNat) 1), (gv (qP46 a0.toNat) 2)] 46, .sl (gv (qP46 a0.toNat) 0) 3 1 (u110.keys_.map I), .sl (gv (qP46 a0.toNat) 1) 9 1 (u110.texts_.map SR), .sl (gv (qP46 a0.toNat) 2) 42 1 (u110.kids_.map (PR gP46)), ar46 gP46 qP46 A46 (a0.toNat :: x5.toNat :: H), .obj (gP46 x5.toNat) [(gv (qP46 x5.toNat) 0), (gv (qP46 x5.toNat) 1), (gv (qP46 x5.toNat) 2)] 46, .sl (gv (qP46 x5.toNat) 0) 3 1 (u108.keys_.map I), .sl (gv (qP46 x5.toNat) 1) 9 1 (u108.texts_.map SR), .sl (gv (qP46 x5.toNat) 2) 42 1 (u108.kids_.map (PR gP46))], Cls w F [.sl (sv b154 1) 9 1 (([x141]).map SR), .sl (sv b142 1) 3 1 (([x140]).map I), .obj (gP46 a0.toNat) [(gv (qP46 a0.toNat) 0), (gv (qP46 a0.toNat) 1), (gv (qP46 a0.toNat) 2)] 46, .sl (gv (qP46 a0.toNat) 0) 3 1 (u110.keys_.map I), .sl (gv (qP46 a0.toNat) 1) 9 1 (u110.texts_.map SR), .sl (gv (qP46 a0.toNat) 2) 42 1 (u110.kids_.map (PR gP46)), ar46 gP46 qP46 A46 (a0.toNat :: x5.toNat :: H), .obj (gP46 x5.toNat) [(gv (qP46 x5.toNat) 0), (gv (qP46 x5.toNat) 1), (gv (qP46 x5.toNat) 2)] 46, .sl (gv (qP46 x5.toNat) 1) 9 1 (u108.texts_.map SR), .sl (gv (qP46 x5.toNat) 2) 42 1 (u108.kids_.map (PR gP46))], Cls w F [.sl (sv b154 1) 9 1 (([x141]).map SR), .sl (sv b142 1) 3 1 (([x140]).map I), .obj (gP46 a0.toNat) [(gv (qP46 a0.toNat) 0), (gv (qP46 a0.toNat) 1), (gv (qP46 a0.toNat) 2)] 46, .sl (gv (qP46 a0.toNat) 0) 3 1 (u110.keys_.map I), .sl (gv (qP46 a0.toNat) 1) 9 1 (u110.texts_.map SR), .sl (gv (qP46 a0.toNat) 2) 42 1 (u110.kids_.map (PR gP46)), ar46 gP46 qP46 A46 (a0.toNat :: x5.toNat :: H), .obj (gP46 x5.toNat) [(gv (qP46 x5.toNat) 0), (gv (qP46 x5.toNat) 1), (gv (qP46 x5.toNat) 2)] 46, .sl (gv (qP46 x5.toNat) 2) 42 1 (u108.kids_.map (PR gP46))]] (Cls w F [.sl (sv b154 1) 9 1 (([x141]).map SR), .sl (sv b142 1) 3 1 (([x140]).map I), .obj (gP46 a0.toNat) [(gv (qP46 a0.toNat) 0), (gv (qP46 a0.toNat) 1), (gv (qP46 a0.toNat) 2)] 46, .sl (gv (qP46 a0.toNat) 0) 3 1 (u110.keys_.map I), .sl (gv (qP46 a0.toNat) 1) 9 1 (u110.texts_.map SR), .sl (gv (qP46 a0.toNat) 2) 42 1 (u110.kids_.map (PR gP46)), ar46 gP46 qP46 A46 (a0.toNat :: x5.toNat :: H), .sl (gv (qP46 x5.toNat) 2) 42 1 (u108.kids_.map (PR gP46))])) 26 (by kernel_rfl) (Sc.stay (fun _ hw => hw.sel [1, 2, 3, 4, 5, 6, 7, 8, 9, 10] (by decide) rfl) (Sc.stay (fun _ hw => hw.sel [1, 2, 3, 4, 5, 6, 7, 8, 9] (by decide) rfl) (Sc.stay (fun _ hw => hw.sel [1, 2, 3, 4, 5, 6, 7, 8] (by decide) rfl) (Sc.stayD (fun _ hw => hw.sel [1, 2, 3, 4, 5, 6, 7] (by decide) rfl))))) (Sc.now (by kernel_rfl) (fun _ hw => hw)) ?_)
     refine V2.eff (i := 14) (by kernel_rfl) rfl ?_
     refine L.insRD (i := 8) (j := 1) (l := u108.keys_) (x1 := x140) (a := 0) h wInsR10 (fun _ => rfl) rfl en10 rfl rfl rfl rfl rfl (by decide) ?_
     intro v156 l155 el155 h
     refine L.nil (E.toV2 (stC [[27, 30], [30]] [Cls w F [.sl (sv b154 1) 9 1 (([x141]).map SR), .sl (sv b142 1) 3 1 (([x140]).map I), .obj (gP46 a0.toNat) [(gv (qP46 a0.toNat) 0), (gv (qP46 a0.toNat) 1), (gv (qP46 a0.toNat) 2)] 46, .sl (gv (qP46 a0.toNat) 0) 3 1 (u110.keys_.map I), .sl (gv (qP46 a0.toNat) 1) 9 1 (u110.texts_.map SR), .sl (gv (qP46 a0.toNat) 2) 42 1 (u110.kids_.map (PR gP46)), ar46 gP46 qP46 A46 (a0.toNat :: x5.toNat :: H), .obj (gP46 x5.toNat) [(gv (qP46 x5.toNat) 0), (gv (qP46 x5.toNat) 1), (gv (qP46 x5.toNat) 2)] 46, .sl v156 3 1 (l155.map I), .sl (gv (qP46 x5.toNat) 1) 9 1 (u108.texts_.map SR), .sl (gv (qP46 x5.toNat) 2) 42 1 (u108.kids_.map (PR gP46))], Cls w F [.sl (sv b154 1) 9 1 (([x141]).map SR), .sl (sv b142 1) 3 1 (([x140]).map I), .obj (gP46 a0.toNat) [(gv (qP46 a0.toNat) 0), (gv (qP46 a0.toNat) 1), (gv (qP46 a0.toNat) 2)] 46, .sl (gv (qP46 a0.toNat) 0) 3 1 (u110.keys_.map I), .sl (gv (qP46 a0.toNat) 1) 9 1 (u110.texts_.map SR), .sl (gv (qP46 a0.toNat) 2) 42 1 (u110.kids_.map (PR gP46)), ar46 gP46 qP46 A46 (a0.toNat :: x5.toNat :: H), .obj (gP46 x5.toNat) [(gv (qP46 x5.toNat) 0), (gv (qP46 x5.toNat) 1), (gv (qP46 x5.toNat) 2)] 46, .sl v156 3 1 (l155.map I), .sl (gv (qP46 x5.toNat) 2) 42 1 (u108.kids_.map (PR gP46))]] (Cls w F [.sl (sv b154 1) 9 1 (([x141]).map SR), .sl (sv b142 1) 3 1 (([x140]).map I), .obj (gP46 a0.toNat) [(gv (qP46 a0.toNat) 0), (gv (qP46 a0.toNat) 1), (gv (qP46 a0.toNat) 2)] 46, .sl (gv (qP46 a0.toNat) 0) 3 1 (u110.keys_.map I), .sl (gv (qP46 a0.toNat) 1) 9 1 (u110.texts_.map SR), .sl (gv (qP46 a0.toNat) 2) 42 1 (u110.kids_.map (PR gP46)), ar46 gP46 qP46 A46 (a0.toNat :: x5.toNat :: H), .sl v156 3 1 (l155.map I), .sl (gv (qP46 x5.toNat) 2) 42 1 (u108.kids_.map (PR gP46))])) 14 (by kernel_rfl) (Sc.past rfl (Sc.stay (fun _ hw => hw.sel [0, 1, 2, 3, 4, 5, 6, 7, 9, 10] (by decide) rfl) (Sc.stay (fun _ hw => hw.sel [0, 1, 2, 3, 4, 5, 6, 7, 9] (by decide) rfl) (Sc.stayD (fun _ hw => hw.sel [0, 1, 2, 3, 4, 5, 6, 8] (by decide) rfl))))) (Sc.now (by kernel_rfl) (fun _ hw => hw)) ?_)
     refine V2.eff (i := 27) (by kernel_rfl) rfl ?_
     refine L.insRD (i := 9) (j := 0) (l := u108.texts_) (x1 := x141) (a := 0) h wInsR28 (fun _ => rfl) rfl en28 rfl rfl rfl rfl rfl (by decide) ?_
     intro v158 l157 el157 h
     refine L.nil (E.toV2 (stC [[30]] [Cls w F [.sl (sv b154 1) 9 1 (([x141]).map SR), .sl (sv b142 1) 3 1 (([x140]).map I), .obj (gP46 a0.toNat) [(gv (qP46 a0.toNat) 0), (gv (qP46 a0.toNat) 1), (gv (qP46 a0.toNat) 2)] 46, .sl (gv (qP46 a0.toNat) 0) 3 1 (u110.keys_.map I), .sl (gv (qP46 a0.toNat) 1) 9 1 (u110.texts_.map SR), .sl (gv (qP46 a0.toNat) 2) 42 1 (u110.kids_.map (PR gP46)), ar46 gP46 qP46 A46 (a0.toNat :: x5.toNat :: H), .obj (gP46 x5.toNat) [(gv (qP46 x5.toNat) 0), (gv (qP46 x5.toNat) 1), (gv (qP46 x5.toNat) 2)] 46, .sl v156 3 1 (l155.map I), .sl v158 9 1 (l157.map SR), .sl (gv (qP46 x5.toNat) 2) 42 1 (u108.kids_.map (PR gP46))]] (Cls w F [.sl (sv b154 1) 9 1 (([x141]).map SR), .sl (sv b142 1) 3 1 (([x140]).map I), .obj (gP46 a0.toNat) [(gv (qP46 a0.toNat) 0), (gv (qP46 a0.toNat) 1), (gv (qP46 a0.toNat) 2)] 46, .sl (gv (qP46 a0.toNat) 0) 3 1 (u110.keys_.map I), .sl (gv (qP46 a0.toNat) 1) 9 1 (u110.texts_.map SR), .sl (gv (qP46 a0.toNat) 2) 42 1 (u110.kids_.map (PR gP46)), ar46 gP46 qP46 A46 (a0.toNat :: x5.toNat :: H), .sl v156 3 1 (l155.map I), .sl v158 9 1 (l157.map SR), .sl (gv (qP46 x5.toNat) 2) 42 1 (u108.kids_.map (PR gP46))])) 27 (by kernel_rfl) (Sc.past rfl (Sc.stay (fun _ hw => hw.sel [0, 1, 2, 3, 4, 5, 6, 7, 8, 10] (by decide) rfl) (Sc.stayD (fun _ hw => hw.sel [0, 1, 2, 3, 4, 5, 6, 7, 9] (by decide) rfl)))) (Sc.now (by kernel_rfl) (fun _ hw => hw)) ?_)
     refine V2.zz [] (Zc.on' (Zc.fin (fun _ hw => hw)) (fun _ hw => hw.sel [0, 1, 2, 3, 4, 5, 6, 8, 9, 10] (by decide) rfl)) (fun hz159 => ?_)
     refine V2.apNil (i := 28) (Nx2.of [] (by kernel_rfl) rfl hz159) rfl rfl rfl eu108 ?_
     refine V2.y (i := 29) (Nx2.of [] (by kernel_rfl) rfl hz159) rfl rfl rfl (Y.fieldP fd46_0 rfl) ?_
     refine V2.eff (i := 30) (by kernel_rfl) rfl ?_
     refine L.storeV (i := 7) sz25 rfl rfl (fun _ hw => (As.at_ (hw.get (i := 8) rfl)).one) rfl (Nat.le_of_ble_eq_true rfl) ?_
     refine L.nil (E.toV2 (stC [] [] (Cls w F [.sl (sv b154 1) 9 1 (([x141]).map SR), .sl (sv b142 1) 3 1 (([x140]).map I), .obj (gP46 a0.toNat) [(gv (qP46 a0.toNat) 0), (gv (qP46 a0.toNat) 1), (gv (qP46 a0.toNat) 2)] 46, .sl (gv (qP46 a0.toNat) 0) 3 1 (u110.keys_.map I), .sl (gv (qP46 a0.toNat) 1) 9 1 (u110.texts_.map SR), .sl (gv (qP46 a0.toNat) 2) 42 1 (u110.kids_.map (PR gP46)), ar46 gP46 qP46 A46 (a0.toNat :: x5.toNat :: H), .sl v156 3 1 (l155.map I), .sl v158 9 1 (l157.map SR), .sl (gv (qP46 x5.toNat) 2) 42 1 (u108.kids_.map (PR gP46))])) 30 (by kernel_rfl) (Sc.past rfl (Sc.stayD (fun _ hw => hw))) (Sc.atD (fun _ hw => hw.sel [0, 1, 2, 3, 4, 5, 6, 8, 9, 10] (by decide) rfl)) ?_)
     refine V2.zz [] (Zc.fin (fun _ hw => hw)) (fun hz160 => ?_)
     refine V2.apNil (i := 31) (Nx2.of [] (by kernel_rfl) rfl hz160) rfl rfl rfl eu108 ?_
     refine V2.y (i := 32) (Nx2.of [] (by kernel_rfl) rfl hz160) rfl rfl rfl (Y.fieldP fd46_1 rfl) ?_
     refine V2.eff (i := 33) (by kernel_rfl) rfl ?_
     refine L.storeV (i := 7) sz43 rfl rfl (fun _ hw => (As.at_ (hw.get (i := 9) rfl)).one) rfl (Nat.le_of_ble_eq_true rfl) ?_
     refine L.nil (E.toV2 (stC [] [] (Cls w F [.sl (sv b154 1) 9 1 (([x141]).map SR), .sl (sv b142 1) 3 1 (([x140]).map I), .obj (gP46 a0.toNat) [(gv (qP46 a0.toNat) 0), (gv (qP46 a0.toNat) 1), (gv (qP46 a0.toNat) 2)] 46, .sl (gv (qP46 a0.toNat) 0) 3 1 (u110.keys_.map I), .sl (gv (qP46 a0.toNat) 1) 9 1 (u110.texts_.map SR), .sl (gv (qP46 a0.toNat) 2) 42 1 (u110.kids_.map (PR gP46)), ar46 gP46 qP46 A46 (a0.toNat :: x5.toNat :: H), .sl v156 3 1 (l155.map I), .sl v158 9 1 (l157.map SR), .sl (gv (qP46 x5.toNat) 2) 42 1 (u108.kids_.map (PR gP46))])) 33 (by kernel_rfl) (Sc.stayD (fun _ hw => hw)) (Sc.atD (fun _ hw => hw.sel [0, 1, 2, 3, 4, 5, 6, 8, 9, 10] (by decide) rfl)) ?_)
     refine V2.done (by kernel_rfl) ?_
     obtain ⟨_, c161, h⟩ := bind1S h
     refine E.to (D := Cls w F [ar46 gP46 qP46 A46 (x5.toNat :: H), .sl (sv b154 1) 9 1 (([x141]).map SR), .sl (sv b142 1) 3 1 (([x140]).map I), .obj (gP46 x5.toNat) [v156, v158, (gv (qP46 x5.toNat) 2)] 46, .sl v156 3 1 (l155.map I), .sl v158 9 1 (l157.map SR), .sl (gv (qP46 x5.toNat) 2) 42 1 (u108.kids_.map (PR gP46))]) (fun _ hw => hw.arShut (hs' := (a0.toNat :: x5.toNat :: H)) [2, 3, 4, 5, 6, 0, 1, 7, 8, 9, 10] eu110 (by decide) rfl (fun _ => List.mem_cons) (nin1 (ck_some c112) eu110 eu108 (ck_some c161))) ?_
     obtain ⟨_, c162, h⟩ := bind1S h
     obtain ⟨l163, el163, h⟩ := bind1S h
     refine E.arClose (row := Tnode.rowA gP46) (sub := Tnode.subA gP46) (e := 46) (g := gP46) (gh := qP46) (vs' := [v156, v158, (gv (qP46 x5.toNat) 2)]) (hs := H) (hs' := (x5.toNat :: H)) (m' := [.sl (sv b154 1) 9 1 (([x141]).map SR), .sl (sv b142 1) 3 1 (([x140]).map I)]) [3, 4, 5, 6, 0, 1, 2] el163 (by decide) rfl (fun _ => List.mem_cons) (ck_some c162) ?_
     intro q164
     refine E.to (D := Cls w F [ar46 gP46 q164 l163 H, .sl (sv b154 1) 9 1 (([x141]).map SR), .sl (sv b142 1) 3 1 (([x140]).map I)]) (fun _ hw => hw) ?_
     exact E.joinJ ⟨l163, q164, rfl, rfl, h⟩ ⟨rfl, rfl, rfl, rfl, rfl, trivial⟩ (fun _ hw => hw.sel [0] (by decide) rfl)
   ·
    refine L.litOne rfl Try.underlying43 eL9 rfl rfl ?_
    intro b165
    refine L.nil (E.toV2 (stC [[14, 27, 30], [27, 30], [30]] [Cls w F [.sl (sv b165 1) 9 1 (([x141]).map SR), .obj (gP46 a0.toNat) [(gv (qP46 a0.toNat) 0), (gv (qP46 a0.toNat) 1), (gv (qP46 a0.toNat) 2)] 46, .sl (gv (qP46 a0.toNat) 0) 3 1 (u110.keys_.map I), .sl (gv (qP46 a0.toNat) 1) 9 1 (u110.texts_.map SR), .sl (gv (qP46 a0.toNat) 2) 42 1 (u110.kids_.map (PR gP46)), ar46 gP46 qP46 A46 (a0.toNat :: x5.toNat :: H), .obj (gP46 x5.toNat) [(gv (qP46 x5.toNat) 0), (gv (qP46 x5.toNat) 1), (gv (qP46 x5.toNat) 2)] 46, .sl (gv (qP46 x5.toNat) 0) 3 1 (u108.keys_.map I), .sl (gv (qP46 x5.toNat) 1) 9 1 (u108.texts_.map SR), .sl (gv (qP46 x5.toNat) 2) 42 1 (u108.kids_.map (PR gP46))], Cls w F [.sl (sv b165 1) 9 1 (([x141]).map SR), .obj (gP46 a0.toNat) [(gv (qP46 a0.toNat) 0), (gv (qP46 a0.toNat) 1), (gv (qP46 a0.toNat) 2)] 46, .sl (gv (qP46 a0.toNat) 0) 3 1 (u110.keys_.map I), .sl (gv (qP46 a0.toNat) 1) 9 1 (u110.texts_.map SR), .sl (gv (qP46 a0.toNat) 2) 42 1 (u110.kids_.map (PR gP46)), ar46 gP46 qP46 A46 (a0.toNat :: x5.toNat :: H), .obj (gP46 x5.toNat) [(gv (qP46 x5.toNat) 0), (gv (qP46 x5.toNat) 1), (gv (qP46 x5.toNat) 2)] 46, .sl (gv (qP46 x5.toNat) 1) 9 1 (u108.texts_.map SR), .sl (gv (qP46 x5.toNat) 2) 42 1 (u108.kids_.map (PR gP46))], Cls w F [.sl (sv b165 1) 9 1 (([x141]).map SR), .obj (gP46 a0.toNat) [(gv (qP46 a0.toNat) 0), (gv (qP46 a0.toNat) 1), (gv (qP46 a0.toNat) 2)] 46, .sl (gv (qP46 a0.toNat) 0) 3 1 (u110.keys_.map I), .sl (gv (qP46 a0.toNat) 1) 9 1 (u110.texts_.map SR), .sl (gv (qP46 a0.toNat) 2) 42 1 (u110.kids_.map (PR gP46)), ar46 gP46 qP46 A46 (a0.toNat :: x5.toNat :: H), .obj (gP46 x5.toNat) [(gv (qP46 x5.toNat) 0), (gv (qP46 x5.toNat) 1), (gv (qP46 x5.toNat) 2)] 46, .sl (gv (qP46 x5.toNat) 2) 42 1 (u108.kids_.map (PR gP46))]] (Cls w F [.sl (sv b165 1) 9 1 (([x141]).map SR), .obj (gP46 a0.toNat) [(gv (qP46 a0.toNat) 0), (gv (qP46 a0.toNat) 1), (gv (qP46 a0.toNat) 2)] 46, .sl (gv (qP46 a0.toNat) 0) 3 1 (u110.keys_.map I), .sl (gv (qP46 a0.toNat) 1) 9 1 (u110.texts_.map SR), .sl (gv (qP46 a0.toNat) 2) 42 1 (u110.kids_.map (PR gP46)), ar46 gP46 qP46 A46 (a0.toNat :: x5.toNat :: H), .sl (gv (qP46 x5.toNat) 2) 42 1 (u108.kids_.map (PR gP46))])) 26 (by kernel_rfl) (Sc.stay (fun _ hw => hw.sel [1, 2, 3, 4, 5, 6, 7, 8, 9] (by decide) rfl) (Sc.stay (fun _ hw => hw.sel [1, 2, 3, 4, 5, 6, 7, 8] (by decide) rfl) (Sc.stay (fun _ hw => hw.sel [1, 2, 3, 4, 5, 6, 7] (by decide) rfl) (Sc.stayD (fun _ hw => hw.sel [1, 2, 3, 4, 5, 6] (by decide) rfl))))) (Sc.now (by kernel_rfl) (fun _ hw => hw)) ?_)
    refine V2.eff (i := 13) (by kernel_rfl) rfl ?_
    refine L.litOne rfl Try.underlying25 eL3 rfl rfl ?_
    intro b166
    refine L.nil (E.toV2 (stC [[14, 27, 30], [27, 30], [30]] [Cls w F [.sl (sv b166 1) 3 1 (([x140]).map I), .sl (sv b165 1) 9 1 (([x141]).map SR), .obj (gP46 a0.toNat) [(gv (qP46 a0.toNat) 0), (gv (qP46 a0.toNat) 1), (gv (qP46 a0.toNat) 2)] 46, .sl (gv (qP46 a0.toNat) 0) 3 1 (u110.keys_.map I), .sl (gv (qP46 a0.toNat) 1) 9 1 (u110.texts_.map SR), .sl (gv (qP46 a0.toNat) 2) 42 1 (u110.kids_.map (PR gP46)), ar46 gP46 qP46 A46 (a0.toNat :: x5.toNat :: H), .obj (gP46 x5.toNat) [(gv (qP46 x5.toNat) 0), (gv (qP46 x5.toNat) 1), (gv (qP46 x5.toNat) 2)] 46, .sl (gv (qP46 x5.toNat) 0) 3 1 (u108.keys_.map I), .sl (gv (qP46 x5.toNat) 1) 9 1 (u108.texts_.map SR), .sl (gv (qP46 x5.toNat) 2) 42 1 (u108.kids_.map (PR gP46))], Cls w F [.sl (sv b166 1) 3 1 (([x140]).map I), .sl (sv b165 1) 9 1 (([x141]).map SR), .obj (gP46 a0.toNat) [(gv (qP46 a0.toNat) 0), (gv (qP46 a0.toNat) 1), (gv (qP46 a0.toNat) 2)] 46, .sl (gv (qP46 a0.toNat) 0) 3 1 (u110.keys_.map I), .sl (gv (qP46 a0.toNat) 1) 9 1 (u110.texts_.map SR), .sl (gv (qP46 a0.toNat) 2) 42 1 (u110.kids_.map (PR gP46)), ar46 gP46 qP46 A46 (a0.toNat :: x5.toNat :: H), .obj (gP46 x5.toNat) [(gv (qP46 x5.toNat) 0), (gv (qP46 x5.toNat) 1), (gv (qP46 x5.toNat) 2)] 46, .sl (gv (qP46 x5.toNat) 1) 9 1 (u108.texts_.map SR), .sl (gv (qP46 x5.toNat) 2) 42 1 (u108.kids_.map (PR gP46))], Cls w F [.sl (sv b166 1) 3 1 (([x140]).map I), .sl (sv b165 1) 9 1 (([x141]).map SR), .obj (gP46 a0.toNat) [(gv (qP46 a0.toNat) 0), (gv (qP46 a0.toNat) 1), (gv (qP46 a0.toNat) 2)] 46, .sl (gv (qP46 a0.toNat) 0) 3 1 (u110.keys_.map I), .sl (gv (qP46 a0.toNat) 1) 9 1 (u110.texts_.map SR), .sl (gv (qP46 a0.toNat) 2) 42 1 (u110.kids_.map (PR gP46)), ar46 gP46 qP46 A46 (a0.toNat :: x5.toNat :: H), .obj (gP46 x5.toNat) [(gv (qP46 x5.toNat) 0), (gv (qP46 x5.toNat) 1), (gv (qP46 x5.toNat) 2)] 46, .sl (gv (qP46 x5.toNat) 2) 42 1 (u108.kids_.map (PR gP46))]] (Cls w F [.sl (sv b166 1) 3 1 (([x140]).map I), .sl (sv b165 1) 9 1 (([x141]).map SR), .obj (gP46 a0.toNat) [(gv (qP46 a0.toNat) 0), (gv (qP46 a0.toNat) 1), (gv (qP46 a0.toNat) 2)] 46, .sl (gv (qP46 a0.toNat) 0) 3 1 (u110.keys_.map I), .sl (gv (qP46 a0.toNat) 1) 9 1 (u110.texts_.map SR), .sl (gv (qP46 a0.toNat) 2) 42 1 (u110.kids_.map (PR gP46)), ar46 gP46 qP46 A46 (a0.toNat :: x5.toNat :: H), .sl (gv (qP46 x5.toNat) 2) 42 1 (u108.kids_.map (PR gP46))])) 13 (by kernel_rfl) (Sc.stay (fun _ hw => hw.sel [1, 2, 3, 4, 5, 6, 7, 8, 9, 10] (by decide) rfl) (Sc.stay (fun _ hw => hw.sel [1, 2, 3, 4, 5, 6, 7, 8, 9] (by decide) rfl) (Sc.stay (fun _ hw => hw.sel [1, 2, 3, 4, 5, 6, 7, 8] (by decide) rfl) (Sc.stayD (fun _ hw => hw.sel [1, 2, 3, 4, 5, 6, 7] (by decide) rfl))))) (Sc.now (by kernel_rfl) (fun _ hw => hw)) ?_)
    refine V2.eff (i := 14) (by kernel_rfl) rfl ?_
    refine L.insRD (i := 8) (j := 0) (l := u108.keys_) (x1 := x140) (a := 0) h wInsR10 (fun _ => rfl) rfl en10 rfl rfl rfl rfl rfl (by decide) ?_
    intro v168 l167 el167 h
    refine L.nil (E.toV2 (stC [[27, 30], [30]] [Cls w F [.sl (sv b166 1) 3 1 (([x140]).map I), .sl (sv b165 1) 9 1 (([x141]).map SR), .obj (gP46 a0.toNat) [(gv (qP46 a0.toNat) 0), (gv (qP46 a0.toNat) 1), (gv (qP46 a0.toNat) 2)] 46, .sl (gv (qP46 a0.toNat) 0) 3 1 (u110.keys_.map I), .sl (gv (qP46 a0.toNat) 1) 9 1 (u110.texts_.map SR), .sl (gv (qP46 a0.toNat) 2) 42 1 (u110.kids_.map (PR gP46)), ar46 gP46 qP46 A46 (a0.toNat :: x5.toNat :: H), .obj (gP46 x5.toNat) [(gv (qP46 x5.toNat) 0), (gv (qP46 x5.toNat) 1), (gv (qP46 x5.toNat) 2)] 46, .sl v168 3 1 (l167.map I), .sl (gv (qP46 x5.toNat) 1) 9 1 (u108.texts_.map SR), .sl (gv (qP46 x5.toNat) 2) 42 1 (u108.kids_.map (PR gP46))], Cls w F [.sl (sv b166 1) 3 1 (([x140]).map I), .sl (sv b165 1) 9 1 (([x141]).map SR), .obj (gP46 a0.toNat) [(gv (qP46 a0.toNat) 0), (gv (qP46 a0.toNat) 1), (gv (qP46 a0.toNat) 2)] 46, .sl (gv (qP46 a0.toNat) 0) 3 1 (u110.keys_.map I), .sl (gv (qP46 a0.toNat) 1) 9 1 (u110.texts_.map SR), .sl (gv (qP46 a0.toNat) 2) 42 1 (u110.kids_.map (PR gP46)), ar46 gP46 qP46 A46 (a0.toNat :: x5.toNat :: H), .obj (gP46 x5.toNat) [(gv (qP46 x5.toNat) 0), (gv (qP46 x5.toNat) 1), (gv (qP46 x5.toNat) 2)] 46, .sl v168 3 1 (l167.map I), .sl (gv (qP46 x5.toNat) 2) 42 1 (u108.kids_.map (PR gP46))]] (Cls w F [.sl (sv b166 1) 3 1 (([x140]).map I), .sl (sv b165 1) 9 1 (([x141]).map SR), .obj (gP46 a0.toNat) [(gv (qP46 a0.toNat) 0), (gv (qP46 a0.toNat) 1), (gv (qP46 a0.toNat) 2)] 46, .sl (gv (qP46 a0.toNat) 0) 3 1 (u110.keys_.map I), .sl (gv (qP46 a0.toNat) 1) 9 1 (u110.texts_.map SR), .sl (gv (qP46 a0.toNat) 2) 42 1 (u110.kids_.map (PR gP46)), ar46 gP46 qP46 A46 (a0.toNat :: x5.toNat :: H), .sl v168 3 1 (l167.map I), .sl (gv (qP46 x5.toNat) 2) 42 1 (u108.kids_.map (PR gP46))])) 14 (by kernel_rfl) (Sc.past rfl (Sc.stay (fun _ hw => hw.sel [0, 1, 2, 3, 4, 5, 6, 7, 9, 10] (by decide) rfl) (Sc.stay (fun _ hw => hw.sel [0, 1, 2, 3, 4, 5, 6, 7, 9] (by decide) rfl) (Sc.stayD (fun _ hw => hw.sel [0, 1, 2, 3, 4, 5, 6, 8] (by decide) rfl))))) (Sc.now (by kernel_rfl) (fun _ hw => hw)) ?_)
    refine V2.eff (i := 27) (by kernel_rfl) rfl ?_
    refine L.insRD (i := 9) (j := 1) (l := u108.texts_) (x1 := x141) (a := 0) h wInsR28 (fun _ => rfl) rfl en28 rfl rfl rfl rfl rfl (by decide) ?_
    intro v170 l169 el169 h
    refine L.nil (E.toV2 (stC [[30]] [Cls w F [.sl (sv b166 1) 3 1 (([x140]).map I), .sl (sv b165 1) 9 1 (([x141]).map SR), .obj (gP46 a0.toNat) [(gv (qP46 a0.toNat) 0), (gv (qP46 a0.toNat) 1), (gv (qP46 a0.toNat) 2)] 46, .sl (gv (qP46 a0.toNat) 0) 3 1 (u110.keys_.map I), .sl (gv (qP46 a0.toNat) 1) 9 1 (u110.texts_.map SR), .sl (gv (qP46 a0.toNat) 2) 42 1 (u110.kids_.map (PR gP46)), ar46 gP46 qP46 A46 (a0.toNat :: x5.toNat :: H), .obj (gP46 x5.toNat) [(gv (qP46 x5.toNat) 0), (gv (qP46 x5.toNat) 1), (gv (qP46 x5.toNat) 2)] 46, .sl v168 3 1 (l167.map I), .sl v170 9 1 (l169.map SR), .sl (gv (qP46 x5.toNat) 2) 42 1 (u108.kids_.map (PR gP46))]] (Cls w F [.sl (sv b166 1) 3 1 (([x140]).map I), .sl (sv b165 1) 9 1 (([x141]).map SR), .obj (gP46 a0.toNat) [(gv (qP46 a0.toNat) 0), (gv (qP46 a0.toNat) 1), (gv (qP46 a0.toNat) 2)] 46, .sl (gv (qP46 a0.toNat) 0) 3 1 (u110.keys_.map I), .sl (gv (qP46 a0.toNat) 1) 9 1 (u110.texts_.map SR), .sl (gv (qP46 a0.toNat) 2) 42 1 (u110.kids_.map (PR gP46)), ar46 gP46 qP46 A46 (a0.toNat :: x5.toNat :: H), .sl v168 3 1 (l167.map I), .sl v170 9 1 (l169.map SR), .sl (gv (qP46 x5.toNat) 2) 42 1 (u108.kids_.map (PR gP46))])) 27 (by kernel_rfl) (Sc.past rfl (Sc.stay (fun _ hw => hw.sel [0, 1, 2, 3, 4, 5, 6, 7, 8, 10] (by decide) rfl) (Sc.stayD (fun _ hw => hw.sel [0, 1, 2, 3, 4, 5, 6, 7, 9] (by decide) rfl)))) (Sc.now (by kernel_rfl) (fun _ hw => hw)) ?_)
    refine V2.zz [] (Zc.on' (Zc.fin (fun _ hw => hw)) (fun _ hw => hw.sel [0, 1, 2, 3, 4, 5, 6, 8, 9, 10] (by decide) rfl)) (fun hz171 => ?_)
    refine V2.apNil (i := 28) (Nx2.of [] (by kernel_rfl) rfl hz171) rfl rfl rfl eu108 ?_
    refine V2.y (i := 29) (Nx2.of [] (by kernel_rfl) rfl hz171) rfl rfl rfl (Y.fieldP fd46_0 rfl) ?_
    refine V2.eff (i := 30) (by kernel_rfl) rfl ?_
    refine L.storeV (i := 7) sz25 rfl rfl (fun _ hw => (As.at_ (hw.get (i := 8) rfl)).one) rfl (Nat.le_of_ble_eq_true rfl) ?_
    refine L.nil (E.toV2 (stC [] [] (Cls w F [.sl (sv b166 1) 3 1 (([x140]).map I), .sl (sv b165 1) 9 1 (([x141]).map SR), .obj (gP46 a0.toNat) [(gv (qP46 a0.toNat) 0), (gv (qP46 a0.toNat) 1), (gv (qP46 a0.toNat) 2)] 46, .sl (gv (qP46 a0.toNat) 0) 3 1 (u110.keys_.map I), .sl (gv (qP46 a0.toNat) 1) 9 1 (u110.texts_.map SR), .sl (gv (qP46 a0.toNat) 2) 42 1 (u110.kids_.map (PR gP46)), ar46 gP46 qP46 A46 (a0.toNat :: x5.toNat :: H), .sl v168 3 1 (l167.map I), .sl v170 9 1 (l169.map SR), .sl (gv (qP46 x5.toNat) 2) 42 1 (u108.kids_.map (PR gP46))])) 30 (by kernel_rfl) (Sc.past rfl (Sc.stayD (fun _ hw => hw))) (Sc.atD (fun _ hw => hw.sel [0, 1, 2, 3, 4, 5, 6, 8, 9, 10] (by decide) rfl)) ?_)
    refine V2.zz [] (Zc.fin (fun _ hw => hw)) (fun hz172 => ?_)
    refine V2.apNil (i := 31) (Nx2.of [] (by kernel_rfl) rfl hz172) rfl rfl rfl eu108 ?_
    refine V2.y (i := 32) (Nx2.of [] (by kernel_rfl) rfl hz172) rfl rfl rfl (Y.fieldP fd46_1 rfl) ?_
    refine V2.eff (i := 33) (by kernel_rfl) rfl ?_
    refine L.storeV (i := 7) sz43 rfl rfl (fun _ hw => (As.at_ (hw.get (i := 9) rfl)).one) rfl (Nat.le_of_ble_eq_true rfl) ?_
    refine L.nil (E.toV2 (stC [] [] (Cls w F [.sl (sv b166 1) 3 1 (([x140]).map I), .sl (sv b165 1) 9 1 (([x141]).map SR), .obj (gP46 a0.toNat) [(gv (qP46 a0.toNat) 0), (gv (qP46 a0.toNat) 1), (gv (qP46 a0.toNat) 2)] 46, .sl (gv (qP46 a0.toNat) 0) 3 1 (u110.keys_.map I), .sl (gv (qP46 a0.toNat) 1) 9 1 (u110.texts_.map SR), .sl (gv (qP46 a0.toNat) 2) 42 1 (u110.kids_.map (PR gP46)), ar46 gP46 qP46 A46 (a0.toNat :: x5.toNat :: H), .sl v168 3 1 (l167.map I), .sl v170 9 1 (l169.map SR), .sl (gv (qP46 x5.toNat) 2) 42 1 (u108.kids_.map (PR gP46))])) 33 (by kernel_rfl) (Sc.stayD (fun _ hw => hw)) (Sc.atD (fun _ hw => hw.sel [0, 1, 2, 3, 4, 5, 6, 8, 9, 10] (by decide) rfl)) ?_)
    refine V2.done (by kernel_rfl) ?_
    obtain ⟨_, c173, h⟩ := bind1S h
    refine E.to (D := Cls w F [ar46 gP46 qP46 A46 (x5.toNat :: H), .sl (sv b166 1) 3 1 (([x140]).map I), .sl (sv b165 1) 9 1 (([x141]).map SR), .obj (gP46 x5.toNat) [v168, v170, (gv (qP46 x5.toNat) 2)] 46, .sl v168 3 1 (l167.map I), .sl v170 9 1 (l169.map SR), .sl (gv (qP46 x5.toNat) 2) 42 1 (u108.kids_.map (PR gP46))]) (fun _ hw => hw.arShut (hs' := (a0.toNat :: x5.toNat :: H)) [2, 3, 4, 5, 6, 0, 1, 7, 8, 9, 10] eu110 (by decide) rfl (fun _ => List.mem_cons) (nin1 (ck_some c112) eu110 eu108 (ck_some c173))) ?_
    obtain ⟨_, c174, h⟩ := bind1S h
    obtain ⟨l175, el175, h⟩ := bind1S h
    refine E.arClose (row := Tnode.rowA gP46) (sub := Tnode.subA gP46) (e := 46) (g := gP46) (gh := qP46) (vs' := [v168, v170, (gv (qP46 x5.toNat) 2)]) (hs := H) (hs' := (x5.toNat :: H)) (m' := [.sl (sv b166 1) 3 1 (([x140]).map I), .sl (sv b165 1) 9 1 (([x141]).map SR)]) [3, 4, 5, 6, 0, 1, 2] el175 (by decide) rfl (fun _ => List.mem_cons) (ck_some c174) ?_
    intro q176
    refine E.to (D := Cls w F [ar46 gP46 q176 l175 H, .sl (sv b166 1) 3 1 (([x140]).map I), .sl (sv b165 1) 9 1 (([x141]).map SR)]) (fun _ hw => hw) ?_
    exact E.joinJ ⟨l175, q176, rfl, rfl, h⟩ ⟨rfl, rfl, rfl, rfl, rfl, trivial⟩ (fun _ hw => hw.sel [0] (by decide) rfl)
  ·
   rintro _ _ ⟨gl1, gq2, rfl, rfl, h⟩
   rw [m34_tree_node_right_K1] at h
   refine W.seq ?_
   obtain ⟨u10, eu10, h⟩ := bind1S h
   obtain ⟨_, c11, h⟩ := bind1S h
   refine W.to (D := Cls w F [.obj (gP46 a0.toNat) [(gv (gq2 a0.toNat) 0), (gv (gq2 a0.toNat) 1), (gv (gq2 a0.toNat) 2)] 46, .sl (gv (gq2 a0.toNat) 0) 3 1 (u10.keys_.map I), .sl (gv (gq2 a0.toNat) 1) 9 1 (u10.texts_.map SR), .sl (gv (gq2 a0.toNat) 2) 42 1 (u10.kids_.map (PR gP46)), ar46 gP46 gq2 gl1 (a0.toNat :: H)]) (fun _ hw => hw.arOpen (p := 0) rfl eu10 (ck_some c11)) ?_
   obtain ⟨u12, eu12, h⟩ := bind1S h
   obtain ⟨_, c13, h⟩ := bind1S h
   obtain ⟨_, c14, h⟩ := bind1S h
   refine W.to (D := Cls w F [.obj (gP46 x3.toNat) [(gv (gq2 x3.toNat) 0), (gv (gq2 x3.toNat) 1), (gv (gq2 x3.toNat) 2)] 46, .sl (gv (gq2 x3.toNat) 0) 3 1 (u12.keys_.map I), .sl (gv (gq2 x3.toNat) 1) 9 1 (u12.texts_.map SR), .sl (gv (gq2 x3.toNat) 2) 42 1 (u12.kids_.map (PR gP46)), ar46 gP46 gq2 gl1 (x3.toNat :: a0.toNat :: H), .obj (gP46 a0.toNat) [(gv (gq2 a0.toNat) 0), (gv (gq2 a0.toNat) 1), (gv (gq2 a0.toNat) 2)] 46, .sl (gv (gq2 a0.toNat) 0) 3 1 (u10.keys_.map I), .sl (gv (gq2 a0.toNat) 1) 9 1 (u10.texts_.map SR), .sl (gv (gq2 a0.toNat) 2) 42 1 (u10.kids_.map (PR gP46))]) (fun _ hw => hw.arOpen (p := 4) rfl eu12 (nin1 (ck_some c14) eu12 eu10 (ck_some c13))) ?_
   refine W.drawn2 (k := 28) (stC [[25, 27], [27]] [Cls w F [.obj (gP46 x3.toNat) [(gv (gq2 x3.toNat) 0), (gv (gq2 x3.toNat) 1), (gv (gq2 x3.toNat) 2)] 46, .sl (gv (gq2 x3.toNat) 0) 3 1 (u12.keys_.map I), .sl (gv (gq2 x3.toNat) 1) 9 1 (u12.texts_.map SR), .sl (gv (gq2 x3.toNat) 2) 42 1 (u12.kids_.map (PR gP46)), ar46 gP46 gq2 gl1 (x3.toNat :: a0.toNat :: H), .obj (gP46 a0.toNat) [(gv (gq2 a0.toNat) 0), (gv (gq2 a0.toNat) 1), (gv (gq2 a0.toNat) 2)] 46, .sl (gv (gq2 a0.toNat) 0) 3 1 (u10.keys_.map I), .sl (gv (gq2 a0.toNat) 1) 9 1 (u10.texts_.map SR), .sl (gv (gq2 a0.toNat) 2) 42 1 (u10.kids_.map (PR gP46))], Cls w F [.obj (gP46 x3.toNat) [(gv (gq2 x3.toNat) 0), (gv (gq2 x3.toNat) 1), (gv (gq2 x3.toNat) 2)] 46, .sl (gv (gq2 x3.toNat) 0) 3 1 (u12.keys_.map I), .sl (gv (gq2 x3.toNat) 1) 9 1 (u12.texts_.map SR), .sl (gv (gq2 x3.toNat) 2) 42 1 (u12.kids_.map (PR gP46)), ar46 gP46 gq2 gl1 (x3.toNat :: a0.toNat :: H), .obj (gP46 a0.toNat) [(gv (gq2 a0.toNat) 0), (gv (gq2 a0.toNat) 1), (gv (gq2 a0.toNat) 2)] 46, .sl (gv (gq2 a0.toNat) 1) 9 1 (u10.texts_.map SR), .sl (gv (gq2 a0.toNat) 2) 42 1 (u10.kids_.map (PR gP46))]] (Cls w F [.obj (gP46 x3.toNat) [(gv (gq2 x3.toNat) 0), (gv (gq2 x3.toNat) 1), (gv (gq2 x3.toNat) 2)] 46, .sl (gv (gq2 x3.toNat) 0) 3 1 (u12.keys_.map I), .sl (gv (gq2 x3.toNat) 1) 9 1 (u12.texts_.map SR), .sl (gv (gq2 x3.toNat) 2) 42 1 (u12.kids_.map (PR gP46)), ar46 gP46 gq2 gl1 (x3.toNat :: a0.toNat :: H), .obj (gP46 a0.toNat) [(gv (gq2 a0.toNat) 0), (gv (gq2 a0.toNat) 1), (gv (gq2 a0.toNat) 2)] 46, .sl (gv (gq2 a0.toNat) 2) 42 1 (u10.kids_.map (PR gP46))])) rfl mixed (fun _ hw => hw.drew) (Sc.now (by kernel_rfl) (fun _ hw => hw)) ?_
   refine V2.zz [] (Zc.on' (Zc.on' (Zc.fin (fun _ hw => hw)) (fun _ hw => hw.sel [0, 1, 2, 3, 4, 5, 7] (by decide) rfl)) (fun _ hw => hw.sel [0, 1, 2, 3, 4, 5, 8] (by decide) rfl)) (fun hz29 => ?_)
   refine V2.y (i := 0) (Nx2.of [] (by kernel_rfl) rfl hz29) rfl rfl rfl (Y.move rfl) ?_
   refine V2.apNil (i := 1) (Nx2.of [] (by kernel_rfl) rfl hz29) rfl rfl rfl eu10 ?_
   refine V2.y (i := 2) (Nx2.of [] (by kernel_rfl) rfl hz29) rfl rfl rfl (Y.fieldP fd46_0 rfl) ?_
   refine V2.y (i := 3) (Nx2.of [] (by kernel_rfl) rfl hz29) rfl rfl rfl (Y.loadP (i := 5) ag25 rfl rfl rfl) ?_
   refine V2.y (i := 4) (Nx2.of [] (by kernel_rfl) rfl hz29) rfl rfl rfl (Y.move rfl) ?_
   refine V2.y (i := 5) (Nx2.of [] (by kernel_rfl) rfl hz29) rfl rfl rfl (Y.move rfl) ?_
   refine V2.apNil (i := 6) (Nx2.of [] (by kernel_rfl) rfl hz29) rfl rfl rfl eu10 ?_
   refine V2.y (i := 7) (Nx2.of [] (by kernel_rfl) rfl hz29) rfl rfl rfl (Y.fieldP fd46_1 rfl) ?_
   refine V2.y (i := 8) (Nx2.of [] (by kernel_rfl) rfl hz29) rfl rfl rfl (Y.loadP (i := 5) ag43 rfl rfl rfl) ?_
   refine V2.y (i := 9) (Nx2.of [] (by kernel_rfl) rfl hz29) rfl rfl rfl (Y.move rfl) ?_
   refine V2.y (i := 10) (Nx2.of [] (by kernel_rfl) rfl hz29) rfl rfl rfl (Y.move rfl) ?_
   refine V2.apNil (i := 11) (Nx2.of [] (by kernel_rfl) rfl hz29) rfl rfl rfl eu12 ?_
   refine V2.y (i := 12) (Nx2.of [] (by kernel_rfl) rfl hz29) rfl rfl rfl (Y.fieldP fd46_0 rfl) ?_
   refine V2.y (i := 13) (Nx2.of [] (by kernel_rfl) rfl hz29) rfl rfl rfl (Y.loadP (i := 0) ag25 rfl rfl rfl) ?_
   refine V2.y (i := 14) (Nx2.of [] (by kernel_rfl) rfl hz29) rfl rfl rfl (Y.move rfl) ?_
   refine V2.m (i := 15) (V' := fun _ => el (gv (gq2 x3.toNat) 0) (x9.toNat * 1)) h (Nx2.of [] (by kernel_rfl) rfl hz29) rfl rfl rfl (Y.indexM (g := I) (l := u12.keys_) Try.underlying25 sz3 rfl rfl (fun w hw => As.at_ (hw.get (i := 1) rfl))) (fun x30 ex30 h => ?_)
   refine V2.y (i := 16) (Nx2.of [] (by kernel_rfl) rfl hz29) rfl rfl rfl (Y.loadE1 (u := .int .i64 x30) ag3 rfl (fun w hw => As.at_ (hw.get (i := 1) rfl)) (idx_map ex30)) ?_
   refine V2.y (i := 17) (Nx2.of [] (by kernel_rfl) rfl hz29) rfl rfl rfl (Y.move rfl) ?_
   refine V2.apNil (i := 18) (Nx2.of [] (by kernel_rfl) rfl hz29) rfl rfl rfl eu12 ?_
   refine V2.y (i := 19) (Nx2.of [] (by kernel_rfl) rfl hz29) rfl rfl rfl (Y.fieldP fd46_1 rfl) ?_
   refine V2.y (i := 20) (Nx2.of [] (by kernel_rfl) rfl hz29) rfl rfl rfl (Y.loadP (i := 0) ag43 rfl rfl rfl) ?_
   refine V2.y (i := 21) (Nx2.of [] (by kernel_rfl) rfl hz29) rfl rfl rfl (Y.move rfl) ?_
   refine V2.m (i := 22) (V' := fun _ => el (gv (gq2 x3.toNat) 1) (x9.toNat * 1)) h (Nx2.of [] (by kernel_rfl) rfl hz29) rfl rfl rfl (Y.indexM (g := SR) (l := u12.texts_) Try.underlying43 sz9 rfl rfl (fun w hw => As.at_ (hw.get (i := 2) rfl))) (fun x31 ex31 h => ?_)
   refine V2.y (i := 23) (Nx2.of [] (by kernel_rfl) rfl hz29) rfl rfl rfl (Y.loadE1 (u := st x31) ag9 rfl (fun w hw => As.at_ (hw.get (i := 2) rfl)) (idx_map ex31)) ?_
   refine V2.zz [25, 27] (Zc.at1 (fun _ hw => hw)) (fun hz33 => ?_)
   refine V2.m (i := 24) (V' := fun _ => el (gv (gq2 a0.toNat) 0) (a1.toNat * 1)) h (Nx2.of [25, 27] (by kernel_rfl) rfl hz33) rfl rfl rfl (Y.indexM (g := I) (l := u10.keys_) Try.underlying25 sz3 rfl rfl (fun w hw => As.at_ (hw.get (i := 6) rfl))) (fun x34 ex34 h => ?_)
   refine V2.eff (i := 25) (by kernel_rfl) rfl ?_
   refine L.storeSlM (q := 6) (row := I) (vs := [.int .i64 x30]) (j := 0) (u1 := x30) h sz3 rfl rfl rfl rfl rfl (all1 rfl all0) rfl ex34 rfl rfl ?_
   intro l35 el35 h
   refine L.nil (E.toV2 (stC [[27]] [Cls w F [.obj (gP46 x3.toNat) [(gv (gq2 x3.toNat) 0), (gv (gq2 x3.toNat) 1), (gv (gq2 x3.toNat) 2)] 46, .sl (gv (gq2 x3.toNat) 0) 3 1 (u12.keys_.map I), .sl (gv (gq2 x3.toNat) 1) 9 1 (u12.texts_.map SR), .sl (gv (gq2 x3.toNat) 2) 42 1 (u12.kids_.map (PR gP46)), ar46 gP46 gq2 gl1 (x3.toNat :: a0.toNat :: H), .obj (gP46 a0.toNat) [(gv (gq2 a0.toNat) 0), (gv (gq2 a0.toNat) 1), (gv (gq2 a0.toNat) 2)] 46, .sl (gv (gq2 a0.toNat) 1) 9 1 (u10.texts_.map SR), .sl (gv (gq2 a0.toNat) 2) 42 1 (u10.kids_.map (PR gP46))]] (Cls w F [.obj (gP46 x3.toNat) [(gv (gq2 x3.toNat) 0), (gv (gq2 x3.toNat) 1), (gv (gq2 x3.toNat) 2)] 46, .sl (gv (gq2 x3.toNat) 0) 3 1 (u12.keys_.map I), .sl (gv (gq2 x3.toNat) 1) 9 1 (u12.texts_.map SR), .sl (gv (gq2 x3.toNat) 2) 42 1 (u12.kids_.map (PR gP46)), ar46 gP46 gq2 gl1 (x3.toNat :: a0.toNat :: H), .obj (gP46 a0.toNat) [(gv (gq2 a0.toNat) 0), (gv (gq2 a0.toNat) 1), (gv (gq2 a0.toNat) 2)] 46, .sl (gv (gq2 a0.toNat) 2) 42 1 (u10.kids_.map (PR gP46))])) 25 (by kernel_rfl) (Sc.past rfl (Sc.stay (fun _ hw => hw) (Sc.stayD (fun _ hw => hw)))) (Sc.now (by kernel_rfl) (fun _ hw => hw.sel [0, 1, 2, 3, 4, 5, 7, 8] (by decide) rfl)) ?_)
   refine V2.zz [27] (Zc.at1 (fun _ hw => hw)) (fun hz37 => ?_)
   refine V2.m (i := 26) (V' := fun _ => el (gv (gq2 a0.toNat) 1) (a1.toNat * 1)) h (Nx2.of [27] (by kernel_rfl) rfl hz37) rfl rfl rfl (Y.indexM (g := SR) (l := u10.texts_) Try.underlying43 sz9 rfl rfl (fun w hw => As.at_ (hw.get (i := 6) rfl))) (fun x38 ex38 h => ?_)
   refine V2.eff (i := 27) (by kernel_rfl) rfl ?_
   refine L.storeSlM (q := 7) (row := SR) (vs := [st x31]) (j := 0) (u1 := x31) h sz9 rfl rfl rfl rfl rfl (all1 rfl all0) rfl ex38 rfl rfl ?_
   intro l39 el39 h
   refine L.nil (E.toV2 (stC [] [] (Cls w F [.obj (gP46 x3.toNat) [(gv (gq2 x3.toNat) 0), (gv (gq2 x3.toNat) 1), (gv (gq2 x3.toNat) 2)] 46, .sl (gv (gq2 x3.toNat) 0) 3 1 (u12.keys_.map I), .sl (gv (gq2 x3.toNat) 1) 9 1 (u12.texts_.map SR), .sl (gv (gq2 x3.toNat) 2) 42 1 (u12.kids_.map (PR gP46)), ar46 gP46 gq2 gl1 (x3.toNat :: a0.toNat :: H), .obj (gP46 a0.toNat) [(gv (gq2 a0.toNat) 0), (gv (gq2 a0.toNat) 1), (gv (gq2 a0.toNat) 2)] 46, .sl (gv (gq2 a0.toNat) 2) 42 1 (u10.kids_.map (PR gP46))])) 27 (by kernel_rfl) (Sc.past rfl (Sc.stayD (fun _ hw => hw))) (Sc.atD (fun _ hw => hw.sel [0, 1, 2, 3, 4, 5, 8] (by decide) rfl)) ?_)
   refine V2.done (by kernel_rfl) ?_
   refine E.thenN (W.seq (W.drawn2 (k := 20) (stC [[16, 19], [19]] [Cls w F [.obj (gP46 x3.toNat) [(gv (gq2 x3.toNat) 0), (gv (gq2 x3.toNat) 1), (gv (gq2 x3.toNat) 2)] 46, .sl (gv (gq2 x3.toNat) 0) 3 1 (u12.keys_.map I), .sl (gv (gq2 x3.toNat) 1) 9 1 (u12.texts_.map SR), .sl (gv (gq2 x3.toNat) 2) 42 1 (u12.kids_.map (PR gP46)), ar46 gP46 gq2 gl1 (x3.toNat :: a0.toNat :: H), .obj (gP46 a0.toNat) [(gv (gq2 a0.toNat) 0), (gv (gq2 a0.toNat) 1), (gv (gq2 a0.toNat) 2)] 46, .sl (gv (gq2 a0.toNat) 0) 3 1 (l35.map I), .sl (gv (gq2 a0.toNat) 1) 9 1 (l39.map SR), .sl (gv (gq2 a0.toNat) 2) 42 1 (u10.kids_.map (PR gP46))], Cls w F [.sl (gv (gq2 x3.toNat) 1) 9 1 (u12.texts_.map SR), .sl (gv (gq2 x3.toNat) 2) 42 1 (u12.kids_.map (PR gP46)), ar46 gP46 gq2 gl1 (x3.toNat :: a0.toNat :: H), .obj (gP46 a0.toNat) [(gv (gq2 a0.toNat) 0), (gv (gq2 a0.toNat) 1), (gv (gq2 a0.toNat) 2)] 46, .sl (gv (gq2 a0.toNat) 0) 3 1 (l35.map I), .sl (gv (gq2 a0.toNat) 1) 9 1 (l39.map SR), .sl (gv (gq2 a0.toNat) 2) 42 1 (u10.kids_.map (PR gP46))]] (Cls w F [.sl (gv (gq2 x3.toNat) 2) 42 1 (u12.kids_.map (PR gP46)), ar46 gP46 gq2 gl1 (x3.toNat :: a0.toNat :: H), .obj (gP46 a0.toNat) [(gv (gq2 a0.toNat) 0), (gv (gq2 a0.toNat) 1), (gv (gq2 a0.toNat) 2)] 46, .sl (gv (gq2 a0.toNat) 0) 3 1 (l35.map I), .sl (gv (gq2 a0.toNat) 1) 9 1 (l39.map SR), .sl (gv (gq2 a0.toNat) 2) 42 1 (u10.kids_.map (PR gP46))])) rfl mixed (fun _ hw => hw.drew) (Sc.now (by kernel_rfl) (fun _ hw => hw)) ?_))
   refine V2.zz [] (Zc.on' (Zc.on' (Zc.fin (fun _ hw => hw)) (fun _ hw => hw.sel [1, 2, 3, 4, 5, 6] (by decide) rfl)) (fun _ hw => hw.sel [3, 4, 5, 6, 7, 8] (by decide) rfl)) (fun hz52 => ?_)
   refine V2.y (i := 0) (Nx2.of [] (by kernel_rfl) rfl hz52) rfl rfl rfl (Y.move rfl) ?_
   refine V2.y (i := 1) (Nx2.of [] (by kernel_rfl) rfl hz52) rfl rfl rfl (Y.move rfl) ?_
   refine V2.y (i := 2) (Nx2.of [] (by kernel_rfl) rfl hz52) rfl rfl rfl (Y.move rfl) ?_
   refine V2.apNil (i := 3) (Nx2.of [] (by kernel_rfl) rfl hz52) rfl rfl rfl eu12 ?_
   refine V2.y (i := 4) (Nx2.of [] (by kernel_rfl) rfl hz52) rfl rfl rfl (Y.fieldP fd46_0 rfl) ?_
   refine V2.zz [16, 19] (Zc.at1 (fun _ hw => hw)) (fun hz54 => ?_)
   refine V2.y (i := 5) (Nx2.of [16, 19] (by kernel_rfl) rfl hz54) rfl rfl rfl (Y.loadP (i := 0) ag25 rfl rfl rfl) ?_
   refine V2.y (i := 6) (Nx2.of [] (by kernel_rfl) rfl hz52) rfl rfl rfl (Y.move rfl) ?_
   refine V2.m (i := 7) (V' := fun _ => cutv (gv (gq2 x3.toNat) 0) x9.toNat) h (Nx2.of [16, 19] (by kernel_rfl) rfl hz54) rfl rfl rfl (Y.cutM (g := I) Try.underlying25 sz3 rfl rfl (fun w hw => As.at_ (hw.get (i := 1) rfl))) (fun l56 el56 h => ?_)
   refine V2.y (i := 8) (Nx2.of [] (by kernel_rfl) rfl hz52) rfl rfl rfl (Y.move rfl) ?_
   refine V2.apNil (i := 9) (Nx2.of [] (by kernel_rfl) rfl hz52) rfl rfl rfl eu12 ?_
   refine V2.y (i := 10) (Nx2.of [] (by kernel_rfl) rfl hz52) rfl rfl rfl (Y.fieldP fd46_1 rfl) ?_
   refine V2.y (i := 11) (Nx2.of [16, 19] (by kernel_rfl) rfl hz54) rfl rfl rfl (Y.loadP (i := 0) ag43 rfl rfl rfl) ?_
   refine V2.y (i := 12) (Nx2.of [] (by kernel_rfl) rfl hz52) rfl rfl rfl (Y.move rfl) ?_
   refine V2.zz [19] (Zc.on' (Zc.at1 (fun _ hw => hw)) (fun _ hw => hw.sel [2, 3, 4, 5, 6, 7, 8] (by decide) rfl)) (fun hz58 => ?_)
   refine V2.m (i := 13) (V' := fun _ => cutv (gv (gq2 x3.toNat) 1) x9.toNat) h (Nx2.of [19] (by kernel_rfl) rfl hz58) rfl rfl rfl (Y.cutM (g := SR) Try.underlying43 sz9 rfl rfl (fun w hw => As.at_ (hw.get (i := 0) rfl))) (fun l59 el59 h => ?_)
   refine V2.apNil (i := 14) (Nx2.of [] (by kernel_rfl) rfl hz52) rfl rfl rfl eu12 ?_
   refine V2.y (i := 15) (Nx2.of [] (by kernel_rfl) rfl hz52) rfl rfl rfl (Y.fieldP fd46_0 rfl) ?_
   refine V2.eff (i := 16) (by kernel_rfl) rfl ?_
   refine L.cutT (i := 1) (g := I) el56 rfl ?_
   refine L.storeV (i := 0) sz25 rfl rfl (fun _ hw => (As.at_ (hw.get (i := 1) rfl)).one) rfl (Nat.le_of_ble_eq_true rfl) ?_
   refine L.nil (E.toV2 (stC [[19]] [Cls w F [.sl (cutv (gv (gq2 x3.toNat) 0) x9.toNat) 3 1 (l56.map I), .sl (gv (gq2 x3.toNat) 1) 9 1 (u12.texts_.map SR), .sl (gv (gq2 x3.toNat) 2) 42 1 (u12.kids_.map (PR gP46)), ar46 gP46 gq2 gl1 (x3.toNat :: a0.toNat :: H), .obj (gP46 a0.toNat) [(gv (gq2 a0.toNat) 0), (gv (gq2 a0.toNat) 1), (gv (gq2 a0.toNat) 2)] 46, .sl (gv (gq2 a0.toNat) 0) 3 1 (l35.map I), .sl (gv (gq2 a0.toNat) 1) 9 1 (l39.map SR), .sl (gv (gq2 a0.toNat) 2) 42 1 (u10.kids_.map (PR gP46))]] (Cls w F [.sl (cutv (gv (gq2 x3.toNat) 0) x9.toNat) 3 1 (l56.map I), .sl (gv (gq2 x3.toNat) 2) 42 1 (u12.kids_.map (PR gP46)), ar46 gP46 gq2 gl1 (x3.toNat :: a0.toNat :: H), .obj (gP46 a0.toNat) [(gv (gq2 a0.toNat) 0), (gv (gq2 a0.toNat) 1), (gv (gq2 a0.toNat) 2)] 46, .sl (gv (gq2 a0.toNat) 0) 3 1 (l35.map I), .sl (gv (gq2 a0.toNat) 1) 9 1 (l39.map SR), .sl (gv (gq2 a0.toNat) 2) 42 1 (u10.kids_.map (PR gP46))])) 16 (by kernel_rfl) (Sc.past rfl (Sc.stay (fun _ hw => hw.sel [1, 2, 3, 4, 5, 6, 7] (by decide) rfl) (Sc.stayD (fun _ hw => hw.sel [1, 2, 3, 4, 5, 6] (by decide) rfl)))) (Sc.now (by kernel_rfl) (fun _ hw => hw.sel [1, 2, 3, 4, 5, 6, 7, 8] (by decide) rfl)) ?_)
   refine V2.zz [] (Zc.on' (Zc.fin (fun _ hw => hw)) (fun _ hw => hw.sel [0, 2, 3, 4, 5, 6, 7] (by decide) rfl)) (fun hz60 => ?_)
   refine V2.apNil (i := 17) (Nx2.of [] (by kernel_rfl) rfl hz60) rfl rfl rfl eu12 ?_
   refine V2.y (i := 18) (Nx2.of [] (by kernel_rfl) rfl hz60) rfl rfl rfl (Y.fieldP fd46_1 rfl) ?_
   refine V2.eff (i := 19) (by kernel_rfl) rfl ?_
   refine L.cutT (i := 2) (g := SR) el59 rfl ?_
   refine L.storeV (i := 0) sz43 rfl rfl (fun _ hw => (As.at_ (hw.get (i := 2) rfl)).one) rfl (Nat.le_of_ble_eq_true rfl) ?_
   refine L.nil (E.toV2 (stC [] [] (Cls w F [.sl (cutv (gv (gq2 x3.toNat) 0) x9.toNat) 3 1 (l56.map I), .sl (cutv (gv (gq2 x3.toNat) 1) x9.toNat) 9 1 (l59.map SR), .sl (gv (gq2 x3.toNat) 2) 42 1 (u12.kids_.map (PR gP46)), ar46 gP46 gq2 gl1 (x3.toNat :: a0.toNat :: H), .obj (gP46 a0.toNat) [(gv (gq2 a0.toNat) 0), (gv (gq2 a0.toNat) 1), (gv (gq2 a0.toNat) 2)] 46, .sl (gv (gq2 a0.toNat) 0) 3 1 (l35.map I), .sl (gv (gq2 a0.toNat) 1) 9 1 (l39.map SR), .sl (gv (gq2 a0.toNat) 2) 42 1 (u10.kids_.map (PR gP46))])) 19 (by kernel_rfl) (Sc.past rfl (Sc.stayD (fun _ hw => hw.sel [0, 2, 3, 4, 5, 6, 7] (by decide) rfl))) (Sc.atD (fun _ hw => hw.sel [1, 2, 3, 4, 5, 6, 7, 8] (by decide) rfl)) ?_)
   refine V2.done (by kernel_rfl) ?_
   refine E.thenN (W.seq (W.region (L.y rfl (Y.move rfl) ?_)))
   refine L.y rfl (Y.apNil rfl eu12) ?_
   refine L.y rfl (Y.fieldP fd46_2 rfl) ?_
   refine L.y rfl (Y.loadP (i := 0) ag44 rfl rfl rfl) ?_
   refine L.y rfl (Y.lenM (g := (PR gP46)) (l := u12.kids_) Try.underlying44 rfl (fun w hw => As.at_ (hw.get (i := 3) rfl))) ?_
   refine L.ite h rfl (Y.gtr rfl rfl) (fun c61 h => ?_) (fun c61 h => ?_)
   ·
    refine L.nil (E.thenN (W.condT rfl ?_))
    refine W.seq ?_
    obtain ⟨_, c62, h⟩ := bind1S h
    obtain ⟨l63, el63, h⟩ := bind1S h
    refine W.arClose (row := Tnode.rowA gP46) (sub := Tnode.subA gP46) (e := 46) (g := gP46) (gh := gq2) (vs' := [(gv (gq2 a0.toNat) 0), (gv (gq2 a0.toNat) 1), (gv (gq2 a0.toNat) 2)]) (hs := (x3.toNat :: H)) (hs' := (x3.toNat :: a0.toNat :: H)) (m' := [.obj (gP46 x3.toNat) [(cutv (gv (gq2 x3.toNat) 0) x9.toNat), (cutv (gv (gq2 x3.toNat) 1) x9.toNat), (gv (gq2 x3.toNat) 2)] 46, .sl (cutv (gv (gq2 x3.toNat) 0) x9.toNat) 3 1 (l56.map I), .sl (cutv (gv (gq2 x3.toNat) 1) x9.toNat) 9 1 (l59.map SR), .sl (gv (gq2 x3.toNat) 2) 42 1 (u12.kids_.map (PR gP46))]) [5, 6, 7, 8, 4, 0, 1, 2, 3] el63 (by decide) rfl (fun _ => by simp [or_comm, or_left_comm]) (nin1 (ck_some c14).symm eu10 eu12 (ck_some c62)) ?_
    intro q64
    have e65 := idx_upd_ne el63 (ck_some c14) eu12
    refine W.to (D := Cls w F [ar46 gP46 q64 l63 (x3.toNat :: H), .obj (gP46 x3.toNat) [(cutv (gv (gq2 x3.toNat) 0) x9.toNat), (cutv (gv (gq2 x3.toNat) 1) x9.toNat), (gv (gq2 x3.toNat) 2)] 46, .sl (cutv (gv (gq2 x3.toNat) 0) x9.toNat) 3 1 (l56.map I), .sl (cutv (gv (gq2 x3.toNat) 1) x9.toNat) 9 1 (l59.map SR), .sl (gv (gq2 x3.toNat) 2) 42 1 (u12.kids_.map (PR gP46))]) (fun _ hw => hw) ?_
    obtain ⟨u66, eu66, h⟩ := bind1S h
    obtain ⟨_, c67, h⟩ := bind1S h
    obtain ⟨_, c68, h⟩ := bind1S h
    refine W.to (D := Cls w F [.obj (gP46 x5.toNat) [(gv (q64 x5.toNat) 0), (gv (q64 x5.toNat) 1), (gv (q64 x5.toNat) 2)] 46, .sl (gv (q64 x5.toNat) 0) 3 1 (u66.keys_.map I), .sl (gv (q64 x5.toNat) 1) 9 1 (u66.texts_.map SR), .sl (gv (q64 x5.toNat) 2) 42 1 (u66.kids_.map (PR gP46)), ar46 gP46 q64 l63 (x5.toNat :: x3.toNat :: H), .obj (gP46 x3.toNat) [(cutv (gv (gq2 x3.toNat) 0) x9.toNat), (cutv (gv (gq2 x3.toNat) 1) x9.toNat), (gv (gq2 x3.toNat) 2)] 46, .sl (cutv (gv (gq2 x3.toNat) 0) x9.toNat) 3 1 (l56.map I), .sl (cutv (gv (gq2 x3.toNat) 1) x9.toNat) 9 1 (l59.map SR), .sl (gv (gq2 x3.toNat) 2) 42 1 (u12.kids_.map (PR gP46))]) (fun _ hw => hw.arOpen (p := 0) rfl eu66 (nin1 (ck_some c68) eu66 e65 (ck_some c67))) ?_
    refine W.drawn2 (k := 18) (stC [[14, 17], [17]] [Cls w F [.obj (gP46 x5.toNat) [(gv (q64 x5.toNat) 0), (gv (q64 x5.toNat) 1), (gv (q64 x5.toNat) 2)] 46, .sl (gv (q64 x5.toNat) 0) 3 1 (u66.keys_.map I), .sl (gv (q64 x5.toNat) 1) 9 1 (u66.texts_.map SR), .sl (gv (q64 x5.toNat) 2) 42 1 (u66.kids_.map (PR gP46)), ar46 gP46 q64 l63 (x5.toNat :: x3.toNat :: H), .obj (gP46 x3.toNat) [(cutv (gv (gq2 x3.toNat) 0) x9.toNat), (cutv (gv (gq2 x3.toNat) 1) x9.toNat), (gv (gq2 x3.toNat) 2)] 46, .sl (cutv (gv (gq2 x3.toNat) 0) x9.toNat) 3 1 (l56.map I), .sl (cutv (gv (gq2 x3.toNat) 1) x9.toNat) 9 1 (l59.map SR), .sl (gv (gq2 x3.toNat) 2) 42 1 (u12.kids_.map (PR gP46))], Cls w F [.obj (gP46 x5.toNat) [(gv (q64 x5.toNat) 0), (gv (q64 x5.toNat) 1), (gv (q64 x5.toNat) 2)] 46, .sl (gv (q64 x5.toNat) 0) 3 1 (u66.keys_.map I), .sl (gv (q64 x5.toNat) 1) 9 1 (u66.texts_.map SR), ar46 gP46 q64 l63 (x5.toNat :: x3.toNat :: H), .obj (gP46 x3.toNat) [(cutv (gv (gq2 x3.toNat) 0) x9.toNat), (cutv (gv (gq2 x3.toNat) 1) x9.toNat), (gv (gq2 x3.toNat) 2)] 46, .sl (cutv (gv (gq2 x3.toNat) 0) x9.toNat) 3 1 (l56.map I), .sl (cutv (gv (gq2 x3.toNat) 1) x9.toNat) 9 1 (l59.map SR), .sl (gv (gq2 x3.toNat) 2) 42 1 (u12.kids_.map (PR gP46))]] (Cls w F [.sl (gv (q64 x5.toNat) 0) 3 1 (u66.keys_.map I), .sl (gv (q64 x5.toNat) 1) 9 1 (u66.texts_.map SR), ar46 gP46 q64 l63 (x5.toNat :: x3.toNat :: H), .obj (gP46 x3.toNat) [(cutv (gv (gq2 x3.toNat) 0) x9.toNat), (cutv (gv (gq2 x3.toNat) 1) x9.toNat), (gv (gq2 x3.toNat) 2)] 46, .sl (cutv (gv (gq2 x3.toNat) 0) x9.toNat) 3 1 (l56.map I), .sl (cutv (gv (gq2 x3.toNat) 1) x9.toNat) 9 1 (l59.map SR), .sl (gv (gq2 x3.toNat) 2) 42 1 (u12.kids_.map (PR gP46))])) rfl mixed (fun _ hw => hw.drew) (Sc.now (by kernel_rfl) (fun _ hw => hw)) ?_
    refine V2.zz [] (Zc.on' (Zc.on' (Zc.fin (fun _ hw => hw)) (fun _ hw => hw.sel [1, 2, 3, 4, 5, 6, 7] (by decide) rfl)) (fun _ hw => hw.sel [1, 2, 4, 5, 6, 7, 8] (by decide) rfl)) (fun hz82 => ?_)
    refine V2.y (i := 0) (Nx2.of [] (by kernel_rfl) rfl hz82) rfl rfl rfl (Y.move rfl) ?_
    refine V2.y (i := 1) (Nx2.of [] (by kernel_rfl) rfl hz82) rfl rfl rfl (Y.move rfl) ?_
    refine V2.apNil (i := 2) (Nx2.of [] (by kernel_rfl) rfl hz82) rfl rfl rfl eu66 ?_
    refine V2.y (i := 3) (Nx2.of [] (by kernel_rfl) rfl hz82) rfl rfl rfl (Y.fieldP fd46_2 rfl) ?_
    refine V2.zz [17] (Zc.on' (Zc.at1 (fun _ hw => hw)) (fun _ hw => hw.sel [0, 1, 2, 4, 5, 6, 7, 8] (by decide) rfl)) (fun hz83 => ?_)
    refine V2.y (i := 4) (Nx2.of [17] (by kernel_rfl) rfl hz83) rfl rfl rfl (Y.loadP (i := 0) ag44 rfl rfl rfl) ?_
    refine V2.y (i := 5) (Nx2.of [] (by kernel_rfl) rfl hz82) rfl rfl rfl (Y.move rfl) ?_
    refine V2.apNil (i := 6) (Nx2.of [] (by kernel_rfl) rfl hz82) rfl rfl rfl e65 ?_
    refine V2.y (i := 7) (Nx2.of [] (by kernel_rfl) rfl hz82) rfl rfl rfl (Y.fieldP fd46_2 rfl) ?_
    refine V2.y (i := 8) (Nx2.of [] (by kernel_rfl) rfl hz82) rfl rfl rfl (Y.loadP (i := 3) ag44 rfl rfl rfl) ?_
    refine V2.y (i := 9) (Nx2.of [] (by kernel_rfl) rfl hz82) rfl rfl rfl (Y.move rfl) ?_
    refine V2.m (i := 10) (V' := fun x84 => .int .i64 x84) h (Nx2.of [] (by kernel_rfl) rfl hz82) rfl rfl rfl (Y.addM rfl rfl) (fun x84 ex84 h => ?_)
    refine V2.m (i := 11) (V' := fun _ => el (gv (gq2 x3.toNat) 2) (x84.toNat * 1)) h (Nx2.of [] (by kernel_rfl) rfl hz82) rfl rfl rfl (Y.indexM (g := (PR gP46)) (l := u12.kids_) Try.underlying44 sz42 rfl rfl (fun w hw => As.at_ (hw.get (i := 6) rfl))) (fun x85 ex85 h => ?_)
    refine V2.y (i := 12) (Nx2.of [] (by kernel_rfl) rfl hz82) rfl rfl rfl (Y.loadE1 (u := VP gP46 x85) ag42 rfl (fun w hw => As.at_ (hw.get (i := 6) rfl)) (idx_map ex85)) ?_
    refine V2.eff (i := 13) (by kernel_rfl) rfl ?_
    refine L.litOne rfl Try.underlying44 eL42 rfl (VP_cells _ _) ?_
    intro b86
    refine L.nil (E.toV2 (stC [[14, 17], [17]] [Cls w F [.sl (sv b86 1) 42 1 (([x85]).map (PR gP46)), .obj (gP46 x5.toNat) [(gv (q64 x5.toNat) 0), (gv (q64 x5.toNat) 1), (gv (q64 x5.toNat) 2)] 46, .sl (gv (q64 x5.toNat) 0) 3 1 (u66.keys_.map I), .sl (gv (q64 x5.toNat) 1) 9 1 (u66.texts_.map SR), .sl (gv (q64 x5.toNat) 2) 42 1 (u66.kids_.map (PR gP46)), ar46 gP46 q64 l63 (x5.toNat :: x3.toNat :: H), .obj (gP46 x3.toNat) [(cutv (gv (gq2 x3.toNat) 0) x9.toNat), (cutv (gv (gq2 x3.toNat) 1) x9.toNat), (gv (gq2 x3.toNat) 2)] 46, .sl (cutv (gv (gq2 x3.toNat) 0) x9.toNat) 3 1 (l56.map I), .sl (cutv (gv (gq2 x3.toNat) 1) x9.toNat) 9 1 (l59.map SR), .sl (gv (gq2 x3.toNat) 2) 42 1 (u12.kids_.map (PR gP46))], Cls w F [.sl (sv b86 1) 42 1 (([x85]).map (PR gP46)), .obj (gP46 x5.toNat) [(gv (q64 x5.toNat) 0), (gv (q64 x5.toNat) 1), (gv (q64 x5.toNat) 2)] 46, .sl (gv (q64 x5.toNat) 0) 3 1 (u66.keys_.map I), .sl (gv (q64 x5.toNat) 1) 9 1 (u66.texts_.map SR), ar46 gP46 q64 l63 (x5.toNat :: x3.toNat :: H), .obj (gP46 x3.toNat) [(cutv (gv (gq2 x3.toNat) 0) x9.toNat), (cutv (gv (gq2 x3.toNat) 1) x9.toNat), (gv (gq2 x3.toNat) 2)] 46, .sl (cutv (gv (gq2 x3.toNat) 0) x9.toNat) 3 1 (l56.map I), .sl (cutv (gv (gq2 x3.toNat) 1) x9.toNat) 9 1 (l59.map SR), .sl (gv (gq2 x3.toNat) 2) 42 1 (u12.kids_.map (PR gP46))]] (Cls w F [.sl (sv b86 1) 42 1 (([x85]).map (PR gP46)), .sl (gv (q64 x5.toNat) 0) 3 1 (u66.keys_.map I), .sl (gv (q64 x5.toNat) 1) 9 1 (u66.texts_.map SR), ar46 gP46 q64 l63 (x5.toNat :: x3.toNat :: H), .obj (gP46 x3.toNat) [(cutv (gv (gq2 x3.toNat) 0) x9.toNat), (cutv (gv (gq2 x3.toNat) 1) x9.toNat), (gv (gq2 x3.toNat) 2)] 46, .sl (cutv (gv (gq2 x3.toNat) 0) x9.toNat) 3 1 (l56.map I), .sl (cutv (gv (gq2 x3.toNat) 1) x9.toNat) 9 1 (l59.map SR), .sl (gv (gq2 x3.toNat) 2) 42 1 (u12.kids_.map (PR gP46))])) 13 (by kernel_rfl) (Sc.stay (fun _ hw => hw.sel [1, 2, 3, 4, 5, 6, 7, 8, 9] (by decide) rfl) (Sc.stay (fun _ hw => hw.sel [1, 2, 3, 4, 5, 6, 7, 8] (by decide) rfl) (Sc.stayD (fun _ hw => hw.sel [1, 2, 3, 4, 5, 6, 7] (by decide) rfl)))) (Sc.now (by kernel_rfl) (fun _ hw => hw)) ?_)
    refine V2.eff (i := 14) (by kernel_rfl) rfl ?_
    refine L.insRD (i := 4) (j := 0) (l := u66.kids_) (x1 := x85) (a := 0) h wInsR30 (fun _ => rfl) rfl en30 rfl rfl rfl rfl rfl (by decide) ?_
    intro v88 l87 el87 h
    refine L.nil (E.toV2 (stC [[17]] [Cls w F [.sl (sv b86 1) 42 1 (([x85]).map (PR gP46)), .obj (gP46 x5.toNat) [(gv (q64 x5.toNat) 0), (gv (q64 x5.toNat) 1), (gv (q64 x5.toNat) 2)] 46, .sl (gv (q64 x5.toNat) 0) 3 1 (u66.keys_.map I), .sl (gv (q64 x5.toNat) 1) 9 1 (u66.texts_.map SR), .sl v88 42 1 (l87.map (PR gP46)), ar46 gP46 q64 l63 (x5.toNat :: x3.toNat :: H), .obj (gP46 x3.toNat) [(cutv (gv (gq2 x3.toNat) 0) x9.toNat), (cutv (gv (gq2 x3.toNat) 1) x9.toNat), (gv (gq2 x3.toNat) 2)] 46, .sl (cutv (gv (gq2 x3.toNat) 0) x9.toNat) 3 1 (l56.map I), .sl (cutv (gv (gq2 x3.toNat) 1) x9.toNat) 9 1 (l59.map SR), .sl (gv (gq2 x3.toNat) 2) 42 1 (u12.kids_.map (PR gP46))]] (Cls w F [.sl (sv b86 1) 42 1 (([x85]).map (PR gP46)), .sl (gv (q64 x5.toNat) 0) 3 1 (u66.keys_.map I), .sl (gv (q64 x5.toNat) 1) 9 1 (u66.texts_.map SR), .sl v88 42 1 (l87.map (PR gP46)), ar46 gP46 q64 l63 (x5.toNat :: x3.toNat :: H), .obj (gP46 x3.toNat) [(cutv (gv (gq2 x3.toNat) 0) x9.toNat), (cutv (gv (gq2 x3.toNat) 1) x9.toNat), (gv (gq2 x3.toNat) 2)] 46, .sl (cutv (gv (gq2 x3.toNat) 0) x9.toNat) 3 1 (l56.map I), .sl (cutv (gv (gq2 x3.toNat) 1) x9.toNat) 9 1 (l59.map SR), .sl (gv (gq2 x3.toNat) 2) 42 1 (u12.kids_.map (PR gP46))])) 14 (by kernel_rfl) (Sc.past rfl (Sc.stay (fun _ hw => hw.sel [0, 1, 2, 3, 5, 6, 7, 8, 9] (by decide) rfl) (Sc.stayD (fun _ hw => hw.sel [0, 1, 2, 4, 5, 6, 7, 8] (by decide) rfl)))) (Sc.now (by kernel_rfl) (fun _ hw => hw)) ?_)
    refine V2.zz [] (Zc.on' (Zc.fin (fun _ hw => hw)) (fun _ hw => hw.sel [0, 2, 3, 4, 5, 6, 7, 8, 9] (by decide) rfl)) (fun hz89 => ?_)
    refine V2.apNil (i := 15) (Nx2.of [] (by kernel_rfl) rfl hz89) rfl rfl rfl eu66 ?_
    refine V2.y (i := 16) (Nx2.of [] (by kernel_rfl) rfl hz89) rfl rfl rfl (Y.fieldP fd46_2 rfl) ?_
    refine V2.eff (i := 17) (by kernel_rfl) rfl ?_
    refine L.storeV (i := 1) sz44 rfl rfl (fun _ hw => (As.at_ (hw.get (i := 4) rfl)).one) rfl (Nat.le_of_ble_eq_true rfl) ?_
    refine L.nil (E.toV2 (stC [] [] (Cls w F [.sl (sv b86 1) 42 1 (([x85]).map (PR gP46)), .sl (gv (q64 x5.toNat) 0) 3 1 (u66.keys_.map I), .sl (gv (q64 x5.toNat) 1) 9 1 (u66.texts_.map SR), .sl v88 42 1 (l87.map (PR gP46)), ar46 gP46 q64 l63 (x5.toNat :: x3.toNat :: H), .obj (gP46 x3.toNat) [(cutv (gv (gq2 x3.toNat) 0) x9.toNat), (cutv (gv (gq2 x3.toNat) 1) x9.toNat), (gv (gq2 x3.toNat) 2)] 46, .sl (cutv (gv (gq2 x3.toNat) 0) x9.toNat) 3 1 (l56.map I), .sl (cutv (gv (gq2 x3.toNat) 1) x9.toNat) 9 1 (l59.map SR), .sl (gv (gq2 x3.toNat) 2) 42 1 (u12.kids_.map (PR gP46))])) 17 (by kernel_rfl) (Sc.past rfl (Sc.stayD (fun _ hw => hw))) (Sc.atD (fun _ hw => hw.sel [0, 2, 3, 4, 5, 6, 7, 8, 9] (by decide) rfl)) ?_)
    refine V2.done (by kernel_rfl) ?_
    refine E.thenN (W.region (L.y rfl (Y.move rfl) ?_))
    refine L.y rfl (Y.move rfl) ?_
    refine L.y rfl (Y.apNil rfl e65) ?_
    refine L.y rfl (Y.fieldP fd46_2 rfl) ?_
    refine L.y rfl (Y.loadP (i := 6) ag44 rfl rfl rfl) ?_
    refine L.y rfl (Y.move rfl) ?_
    refine L.m (V := fun x90 => .int .i64 x90) h rfl (Y.addM rfl rfl) (fun x90 ex90 h => ?_)
    obtain ⟨l91, el91, h⟩ := bind1S h
    refine L.cutM (i := 9) (g := (PR gP46)) el91 rfl Try.underlying44 sz42 rfl rfl rfl (fun v92 => ?_)
    refine L.y rfl (Y.apNil rfl e65) ?_
    refine L.y rfl (Y.fieldP fd46_2 rfl) ?_
    refine L.storeV (i := 6) sz44 rfl rfl (fun _ hw => (As.at_ (hw.get (i := 9) rfl)).one) rfl (Nat.le_of_ble_eq_true rfl) ?_
    refine L.nil ?_
    obtain ⟨_, c93, h⟩ := bind1S h
    obtain ⟨l94, el94, h⟩ := bind1S h
    refine E.arClose (row := Tnode.rowA gP46) (sub := Tnode.subA gP46) (e := 46) (g := gP46) (gh := q64) (vs' := [(gv (q64 x5.toNat) 0), (gv (q64 x5.toNat) 1), v88]) (hs := (x3.toNat :: H)) (hs' := (x5.toNat :: x3.toNat :: H)) (m' := [.sl (sv b86 1) 42 1 (([x85]).map (PR gP46)), .obj (gP46 x3.toNat) [(cutv (gv (gq2 x3.toNat) 0) x9.toNat), (cutv (gv (gq2 x3.toNat) 1) x9.toNat), v92] 46, .sl (cutv (gv (gq2 x3.toNat) 0) x9.toNat) 3 1 (l56.map I), .sl (cutv (gv (gq2 x3.toNat) 1) x9.toNat) 9 1 (l59.map SR), .sl v92 42 1 (l91.map (PR gP46))]) [1, 2, 3, 4, 5, 0, 6, 7, 8, 9] el94 (by decide) rfl (fun _ => List.mem_cons) (nin1 (ck_some c68) eu66 e65 (ck_some c93)) ?_
    intro q95
    have e96 := idx_upd_ne el94 (ck_some c68).symm e65
    refine E.to (D := Cls w F [ar46 gP46 q95 l94 (x3.toNat :: H), .sl (sv b86 1) 42 1 (([x85]).map (PR gP46)), .obj (gP46 x3.toNat) [(cutv (gv (gq2 x3.toNat) 0) x9.toNat), (cutv (gv (gq2 x3.toNat) 1) x9.toNat), v92] 46, .sl (cutv (gv (gq2 x3.toNat) 0) x9.toNat) 3 1 (l56.map I), .sl (cutv (gv (gq2 x3.toNat) 1) x9.toNat) 9 1 (l59.map SR), .sl v92 42 1 (l91.map (PR gP46))]) (fun _ hw => hw) ?_
    obtain ⟨_, c97, h⟩ := bind1S h
    obtain ⟨l98, el98, h⟩ := bind1S h
    refine E.arClose (row := Tnode.rowA gP46) (sub := Tnode.subA gP46) (e := 46) (g := gP46) (gh := q95) (vs' := [(cutv (gv (gq2 x3.toNat) 0) x9.toNat), (cutv (gv (gq2 x3.toNat) 1) x9.toNat), v92]) (hs := H) (hs' := (x3.toNat :: H)) (m' := [.sl (sv b86 1) 42 1 (([x85]).map (PR gP46))]) [2, 3, 4, 5, 0, 1] el98 (by decide) rfl (fun _ => List.mem_cons) (ck_some c97) ?_
    intro q99
    refine E.to (D := Cls w F [ar46 gP46 q99 l98 H, .sl (sv b86 1) 42 1 (([x85]).map (PR gP46))]) (fun _ hw => hw) ?_
    refine E.end0 rfl (fun w1 hw => ?_)
    obtain rfl := Option.some.inj h
    exact ⟨_, _, rfl, ⟨_, rfl, rfl⟩, hw.sel [0] (by decide) rfl⟩
   ·
    refine L.nil (E.thenN (W.condF rfl ?_))
    refine W.skip ?_
    obtain ⟨_, c100, h⟩ := bind1S h
    obtain ⟨l101, el101, h⟩ := bind1S h
    refine E.arClose (row := Tnode.rowA gP46) (sub := Tnode.subA gP46) (e := 46) (g := gP46) (gh := gq2) (vs' := [(cutv (gv (gq2 x3.toNat) 0) x9.toNat), (cutv (gv (gq2 x3.toNat) 1) x9.toNat), (gv (gq2 x3.toNat) 2)]) (hs := (a0.toNat :: H)) (hs' := (x3.toNat :: a0.toNat :: H)) (m' := [.obj (gP46 a0.toNat) [(gv (gq2 a0.toNat) 0), (gv (gq2 a0.toNat) 1), (gv (gq2 a0.toNat) 2)] 46, .sl (gv (gq2 a0.toNat) 0) 3 1 (l35.map I), .sl (gv (gq2 a0.toNat) 1) 9 1 (l39.map SR), .sl (gv (gq2 a0.toNat) 2) 42 1 (u10.kids_.map (PR gP46))]) [0, 1, 2, 3, 4, 5, 6, 7, 8] el101 (by decide) rfl (fun _ => List.mem_cons) (nin1 (ck_some c14) eu12 eu10 (ck_some c100)) ?_
    intro q102
    have e103 := idx_upd_ne el101 (ck_some c14).symm eu10
    refine E.to (D := Cls w F [ar46 gP46 q102 l101 (a0.toNat :: H), .obj (gP46 a0.toNat) [(gv (gq2 a0.toNat) 0), (gv (gq2 a0.toNat) 1), (gv (gq2 a0.toNat) 2)] 46, .sl (gv (gq2 a0.toNat) 0) 3 1 (l35.map I), .sl (gv (gq2 a0.toNat) 1) 9 1 (l39.map SR), .sl (gv (gq2 a0.toNat) 2) 42 1 (u10.kids_.map (PR gP46))]) (fun _ hw => hw) ?_
    obtain ⟨_, c104, h⟩ := bind1S h
    obtain ⟨l105, el105, h⟩ := bind1S h
    refine E.arClose (row := Tnode.rowA gP46) (sub := Tnode.subA gP46) (e := 46) (g := gP46) (gh := q102) (vs' := [(gv (gq2 a0.toNat) 0), (gv (gq2 a0.toNat) 1), (gv (gq2 a0.toNat) 2)]) (hs := H) (hs' := (a0.toNat :: H)) (m' := []) [1, 2, 3, 4, 0] el105 (by decide) rfl (fun _ => List.mem_cons) (ck_some c104) ?_
    intro q106
    refine E.to (D := Cls w F [ar46 gP46 q106 l105 H]) (fun _ hw => hw) ?_
    refine E.end0 rfl (fun w1 hw => ?_)
    obtain rfl := Option.some.inj h
    exact ⟨_, _, rfl, ⟨_, rfl, rfl⟩, hw⟩
set_option maxRecDepth 100000 in
set_option maxHeartbeats 8000000 in
theorem w35_tree_node_left (a0 : Int) (a1 : Int) (A46 : (List Tnode)) (H : (List Nat)) (gP46 : Nat → Nat) (qP46 : Nat → List Value) (w : World) (r : (List Tnode)) (h : m35_tree_node_left a0 a1 A46 H = some r) (F : List Nat) (hc0 : Cls w F [ar46 gP46 qP46 A46 H] w) : DoesF Try.prog 35 [VP gP46 a0, .int .i64 a1] F w fun u m => ∃ Q46, u = .tuple #[] ∧ m = [ar46 gP46 Q46 r H] := by
  rw [m35_tree_node_left] at h
  refine body (n := 122) Try.func35 rfl rfl rfl hc0 ?_
  refine W.seq ?_
  obtain ⟨u1, eu1, h⟩ := bind1S h
  obtain ⟨_, c2, h⟩ := bind1S h
  refine W.to (D := Cls w F [.obj (gP46 a0.toNat) [(gv (qP46 a0.toNat) 0), (gv (qP46 a0.toNat) 1), (gv (qP46 a0.toNat) 2)] 46, .sl (gv (qP46 a0.toNat) 0) 3 1 (u1.keys_.map I), .sl (gv (qP46 a0.toNat) 1) 9 1 (u1.texts_.map SR), .sl (gv (qP46 a0.toNat) 2) 42 1 (u1.kids_.map (PR gP46)), ar46 gP46 qP46 A46 (a0.toNat :: H)]) (fun _ hw => hw.arOpen (p := 0) rfl eu1 (ck_some c2)) ?_
  refine W.quietC mixed (by kernel_rfl) (fun _ hw => hw.drew) (fun hC => ?_)
  refine U.y rfl (Y.move rfl) ?_
  refine U.y rfl (Y.apNil rfl eu1) ?_
  refine U.y rfl (Y.fieldP fd46_2 rfl) ?_
  refine U.y rfl (Y.loadP (i := 0) ag44 rfl rfl rfl) ?_
  refine U.y rfl (Y.move rfl) ?_
  refine U.m (V := fun _ => el (gv (qP46 a0.toNat) 2) (a1.toNat * 1)) h rfl (Y.indexM (g := (PR gP46)) (l := u1.kids_) Try.underlying44 sz42 rfl rfl (fun w hw => As.at_ (hw.get (i := 3) rfl))) (fun x3 ex3 h => ?_)
  refine U.y rfl (Y.loadE1 (u := VP gP46 x3) ag42 rfl (fun w hw => As.at_ (hw.get (i := 3) rfl)) (idx_map ex3)) ?_
  refine U.y rfl (Y.move rfl) ?_
  refine U.y rfl (Y.apNil rfl eu1) ?_
  refine U.y rfl (Y.fieldP fd46_2 rfl) ?_
  refine U.y rfl (Y.loadP (i := 0) ag44 rfl rfl rfl) ?_
  refine U.y rfl (Y.move rfl) ?_
  refine U.m (V := fun x4 => .int .i64 x4) h rfl (Y.addM rfl rfl) (fun x4 ex4 h => ?_)
  refine U.m (V := fun _ => el (gv (qP46 a0.toNat) 2) (x4.toNat * 1)) h rfl (Y.indexM (g := (PR gP46)) (l := u1.kids_) Try.underlying44 sz42 rfl rfl (fun w hw => As.at_ (hw.get (i := 3) rfl))) (fun x5 ex5 h => ?_)
  refine U.y rfl (Y.loadE1 (u := VP gP46 x5) ag42 rfl (fun w hw => As.at_ (hw.get (i := 3) rfl)) (idx_map ex5)) ?_
  refine U.y rfl (Y.assign rfl) ?_
  refine U.y rfl (Y.assign rfl) ?_
  refine U.nil (E.thenN (W.seqJ (fun gs D => ∃ (gl1 : (List Tnode)) (gq2 : Nat → List Value), gs = [(0, VP gP46 a0), (1, .int .i64 a1), (4, VP gP46 x3), (5, VP gP46 x5)] ∧ D = Cls w F [ar46 gP46 gq2 gl1 H] ∧ m35_tree_node_left_K1 a0 H x5 a1 x3 gl1 = some r) ?_ ?_))
  ·
   obtain ⟨u100, eu100, h⟩ := bind1S h
   obtain ⟨_, c101, h⟩ := bind1S h
   obtain ⟨_, c102, h⟩ := bind1S h
   refine W.to (D := Cls w F [.obj (gP46 x3.toNat) [(gv (qP46 x3.toNat) 0), (gv (qP46 x3.toNat) 1), (gv (qP46 x3.toNat) 2)] 46, .sl (gv (qP46 x3.toNat) 0) 3 1 (u100.keys_.map I), .sl (gv (qP46 x3.toNat) 1) 9 1 (u100.texts_.map SR), .sl (gv (qP46 x3.toNat) 2) 42 1 (u100.kids_.map (PR gP46)), ar46 gP46 qP46 A46 (x3.toNat :: a0.toNat :: H), .obj (gP46 a0.toNat) [(gv (qP46 a0.toNat) 0), (gv (qP46 a0.toNat) 1), (gv (qP46 a0.toNat) 2)] 46, .sl (gv (qP46 a0.toNat) 0) 3 1 (u1.keys_.map I), .sl (gv (qP46 a0.toNat) 1) 9 1 (u1.texts_.map SR), .sl (gv (qP46 a0.toNat) 2) 42 1 (u1.kids_.map (PR gP46))]) (fun _ hw => hw.arOpen (p := 4) rfl eu100 (nin1 (ck_some c102) eu100 eu1 (ck_some c101))) ?_
   refine W.drawn2 (k := 34) (stC [[14, 27, 30], [27, 30], [30]] [Cls w F [.obj (gP46 x3.toNat) [(gv (qP46 x3.toNat) 0), (gv (qP46 x3.toNat) 1), (gv (qP46 x3.toNat) 2)] 46, .sl (gv (qP46 x3.toNat) 0) 3 1 (u100.keys_.map I), .sl (gv (qP46 x3.toNat) 1) 9 1 (u100.texts_.map SR), .sl (gv (qP46 x3.toNat) 2) 42 1 (u100.kids_.map (PR gP46)), ar46 gP46 qP46 A46 (x3.toNat :: a0.toNat :: H), .obj (gP46 a0.toNat) [(gv (qP46 a0.toNat) 0), (gv (qP46 a0.toNat) 1), (gv (qP46 a0.toNat) 2)] 46, .sl (gv (qP46 a0.toNat) 0) 3 1 (u1.keys_.map I), .sl (gv (qP46 a0.toNat) 1) 9 1 (u1.texts_.map SR), .sl (gv (qP46 a0.toNat) 2) 42 1 (u1.kids_.map (PR gP46))], Cls w F [.obj (gP46 x3.toNat) [(gv (qP46 x3.toNat) 0), (gv (qP46 x3.toNat) 1), (gv (qP46 x3.toNat) 2)] 46, .sl (gv (qP46 x3.toNat) 1) 9 1 (u100.texts_.map SR), .sl (gv (qP46 x3.toNat) 2) 42 1 (u100.kids_.map (PR gP46)), ar46 gP46 qP46 A46 (x3.toNat :: a0.toNat :: H), .obj (gP46 a0.toNat) [(gv (qP46 a0.toNat) 0), (gv (qP46 a0.toNat) 1), (gv (qP46 a0.toNat) 2)] 46, .sl (gv (qP46 a0.toNat) 0) 3 1 (u1.keys_.map I), .sl (gv (qP46 a0.toNat) 1) 9 1 (u1.texts_.map SR), .sl (gv (qP46 a0.toNat) 2) 42 1 (u1.kids_.map (PR gP46))], Cls w F [.obj (gP46 x3.toNat) [(gv (qP46 x3.toNat) 0), (gv (qP46 x3.toNat) 1), (gv (qP46 x3.toNat) 2)] 46, .sl (gv (qP46 x3.toNat) 2) 42 1 (u100.kids_.map (PR gP46)), ar46 gP46 qP46 A46 (x3.toNat :: a0.toNat :: H), .obj (gP46 a0.toNat) [(gv (qP46 a0.toNat) 0), (gv (qP46 a0.toNat) 1), (gv (qP46 a0.toNat) 2)] 46, .sl (gv (qP46 a0.toNat) 0) 3 1 (u1.keys_.map I), .sl (gv (qP46 a0.toNat) 1) 9 1 (u1.texts_.map SR), .sl (gv (qP46 a0.toNat) 2) 42 1 (u1.kids_.map (PR gP46))]] (Cls w F [.sl (gv (qP46 x3.toNat) 2) 42 1 (u100.kids_.map (PR gP46)), ar46 gP46 qP46 A46 (x3.toNat :: a0.toNat :: H), .obj (gP46 a0.toNat) [(gv (qP46 a0.toNat) 0), (gv (qP46 a0.toNat) 1), (gv (qP46 a0.toNat) 2)] 46, .sl (gv (qP46 a0.toNat) 0) 3 1 (u1.keys_.map I), .sl (gv (qP46 a0.toNat) 1) 9 1 (u1.texts_.map SR), .sl (gv (qP46 a0.toNat) 2) 42 1 (u1.kids_.map (PR gP46))])) rfl mixed (fun _ hw => hw.drew) (Sc.now (by kernel_rfl) (fun _ hw => hw)) ?_
   refine V2.zz [] (Zc.on' (Zc.on' (Zc.on' (Zc.fin (fun _ hw => hw)) (fun _ hw => hw.sel [1, 2, 3, 4, 5, 6] (by decide) rfl)) (fun _ hw => hw.sel [2, 3, 4, 5, 6, 7] (by decide) rfl)) (fun _ hw => hw.sel [3, 4, 5, 6, 7, 8] (by decide) rfl)) (fun hz128 => ?_)
   refine V2.y (i := 0) (Nx2.of [] (by kernel_rfl) rfl hz128) rfl rfl rfl (Y.move rfl) ?_
   refine V2.y (i := 1) (Nx2.of [] (by kernel_rfl) rfl hz128) rfl rfl rfl (Y.move rfl) ?_
   refine V2.y (i := 2) (Nx2.of [] (by kernel_rfl) rfl hz128) rfl rfl rfl (Y.move rfl) ?_
   refine V2.apNil (i := 3) (Nx2.of [] (by kernel_rfl) rfl hz128) rfl rfl rfl eu100 ?_
   refine V2.y (i := 4) (Nx2.of [] (by kernel_rfl) rfl hz128) rfl rfl rfl (Y.fieldP fd46_0 rfl) ?_
   refine V2.zz [30] (Zc.on' (Zc.on' (Zc.at1 (fun _ hw => hw)) (fun _ hw => hw.sel [0, 2, 3, 4, 5, 6, 7] (by decide) rfl)) (fun _ hw => hw.sel [0, 3, 4, 5, 6, 7, 8] (by decide) rfl)) (fun hz129 => ?_)
   refine V2.y (i := 5) (Nx2.of [30] (by kernel_rfl) rfl hz129) rfl rfl rfl (Y.loadP (i := 0) ag25 rfl rfl rfl) ?_
   refine V2.y (i := 6) (Nx2.of [] (by kernel_rfl) rfl hz128) rfl rfl rfl (Y.move rfl) ?_
   refine V2.apNil (i := 7) (Nx2.of [] (by kernel_rfl) rfl hz128) rfl rfl rfl eu1 ?_
   refine V2.y (i := 8) (Nx2.of [] (by kernel_rfl) rfl hz128) rfl rfl rfl (Y.fieldP fd46_0 rfl) ?_
   refine V2.y (i := 9) (Nx2.of [] (by kernel_rfl) rfl hz128) rfl rfl rfl (Y.loadP (i := 2) ag25 rfl rfl rfl) ?_
   refine V2.y (i := 10) (Nx2.of [] (by kernel_rfl) rfl hz128) rfl rfl rfl (Y.move rfl) ?_
   refine V2.m (i := 11) (V' := fun _ => el (gv (qP46 a0.toNat) 0) (a1.toNat * 1)) h (Nx2.of [] (by kernel_rfl) rfl hz128) rfl rfl rfl (Y.indexM (g := I) (l := u1.keys_) Try.underlying25 sz3 rfl rfl (fun w hw => As.at_ (hw.get (i := 3) rfl))) (fun x130 ex130 h => ?_)
   refine V2.y (i := 12) (Nx2.of [] (by kernel_rfl) rfl hz128) rfl rfl rfl (Y.loadE1 (u := .int .i64 x130) ag3 rfl (fun w hw => As.at_ (hw.get (i := 3) rfl)) (idx_map ex130)) ?_
   refine V2.y (i := 15) (Nx2.of [] (by kernel_rfl) rfl hz128) rfl rfl rfl (Y.move rfl) ?_
   refine V2.apNil (i := 16) (Nx2.of [] (by kernel_rfl) rfl hz128) rfl rfl rfl eu100 ?_
   refine V2.y (i := 17) (Nx2.of [] (by kernel_rfl) rfl hz128) rfl rfl rfl (Y.fieldP fd46_1 rfl) ?_
   refine V2.y (i := 18) (Nx2.of [30] (by kernel_rfl) rfl hz129) rfl rfl rfl (Y.loadP (i := 0) ag43 rfl rfl rfl) ?_
   refine V2.y (i := 19) (Nx2.of [] (by kernel_rfl) rfl hz128) rfl rfl rfl (Y.move rfl) ?_
   refine V2.apNil (i := 20) (Nx2.of [] (by kernel_rfl) rfl hz128) rfl rfl rfl eu1 ?_
   refine V2.y (i := 21) (Nx2.of [] (by kernel_rfl) rfl hz128) rfl rfl rfl (Y.fieldP fd46_1 rfl) ?_
   refine V2.y (i := 22) (Nx2.of [] (by kernel_rfl) rfl hz128) rfl rfl rfl (Y.loadP (i := 2) ag43 rfl rfl rfl) ?_
   refine V2.y (i := 23) (Nx2.of [] (by kernel_rfl) rfl hz128) rfl rfl rfl (Y.move rfl) ?_
   refine V2.m (i := 24) (V' := fun _ => el (gv (qP46 a0.toNat) 1) (a1.toNat * 1)) h (Nx2.of [] (by kernel_rfl) rfl hz128) rfl rfl rfl (Y.indexM (g := SR) (l := u1.texts_) Try.underlying43 sz9 rfl rfl (fun w hw => As.at_ (hw.get (i := 4) rfl))) (fun x131 ex131 h => ?_)
   refine V2.y (i := 25) (Nx2.of [] (by kernel_rfl) rfl hz128) rfl rfl rfl (Y.loadE1 (u := st x131) ag9 rfl (fun w hw => As.at_ (hw.get (i := 4) rfl)) (idx_map ex131)) ?_
   refine V2.eff2 (i1 := 13) (i2 := 26) (by kernel_rfl) rfl rfl ?_ ?_
   ·
    refine L.litOne rfl Try.underlying25 eL3 rfl rfl ?_
    intro b132
    refine L.nil (E.toV2 (stC [[14, 27, 30], [27, 30], [30]] [Cls w F [.sl (sv b132 1) 3 1 (([x130]).map I), .obj (gP46 x3.toNat) [(gv (qP46 x3.toNat) 0), (gv (qP46 x3.toNat) 1), (gv (qP46 x3.toNat) 2)] 46, .sl (gv (qP46 x3.toNat) 0) 3 1 (u100.keys_.map I), .sl (gv (qP46 x3.toNat) 1) 9 1 (u100.texts_.map SR), .sl (gv (qP46 x3.toNat) 2) 42 1 (u100.kids_.map (PR gP46)), ar46 gP46 qP46 A46 (x3.toNat :: a0.toNat :: H), .obj (gP46 a0.toNat) [(gv (qP46 a0.toNat) 0), (gv (qP46 a0.toNat) 1), (gv (qP46 a0.toNat) 2)] 46, .sl (gv (qP46 a0.toNat) 0) 3 1 (u1.keys_.map I), .sl (gv (qP46 a0.toNat) 1) 9 1 (u1.texts_.map SR), .sl (gv (qP46 a0.toNat) 2) 42 1 (u1.kids_.map (PR gP46))], Cls w F [.sl (sv b132 1) 3 1 (([x130]).map I), .obj (gP46 x3.toNat) [(gv (qP46 x3.toNat) 0), (gv (qP46 x3.toNat) 1), (gv (qP46 x3.toNat) 2)] 46, .sl (gv (qP46 x3.toNat) 1) 9 1 (u100.texts_.map SR), .sl (gv (qP46 x3.toNat) 2) 42 1 (u100.kids_.map (PR gP46)), ar46 gP46 qP46 A46 (x3.toNat :: a0.toNat :: H), .obj (gP46 a0.toNat) [(gv (qP46 a0.toNat) 0), (gv (qP46 a0.toNat) 1), (gv (qP46 a0.toNat) 2)] 46, .sl (gv (qP46 a0.toNat) 0) 3 1 (u1.keys_.map I), .sl (gv (qP46 a0.toNat) 1) 9 1 (u1.texts_.map SR), .sl (gv (qP46 a0.toNat) 2) 42 1 (u1.kids_.map (PR gP46))], Cls w F [.sl (sv b132 1) 3 1 (([x130]).map I), .obj (gP46 x3.toNat) [(gv (qP46 x3.toNat) 0), (gv (qP46 x3.toNat) 1), (gv (qP46 x3.toNat) 2)] 46, .sl (gv (qP46 x3.toNat) 2) 42 1 (u100.kids_.map (PR gP46)), ar46 gP46 qP46 A46 (x3.toNat :: a0.toNat :: H), .obj (gP46 a0.toNat) [(gv (qP46 a0.toNat) 0), (gv (qP46 a0.toNat) 1), (gv (qP46 a0.toNat) 2)] 46, .sl (gv (qP46 a0.toNat) 0) 3 1 (u1.keys_.map I), .sl (gv (qP46 a0.toNat) 1) 9 1 (u1.texts_.map SR), .sl (gv (qP46 a0.toNat) 2) 42 1 (u1.kids_.map (PR gP46))]] (Cls w F [.sl (sv b132 1) 3 1 (([x130]).map I), .sl (gv (qP46 x3.toNat) 2) 42 1 (u100.kids_.map (PR gP46)), ar46 gP46 qP46 A46 (x3.toNat :: a0.toNat :: H), .obj (gP46 a0.toNat) [(gv (qP46 a0.toNat) 0), (gv (qP46 a0.toNat) 1), (gv (qP46 a0.toNat) 2)] 46, .sl (gv (qP46 a0.toNat) 0) 3 1 (u1.keys_.map I), .sl (gv (qP46 a0.toNat) 1) 9 1 (u1.texts_.map SR), .sl (gv (qP46 a0.toNat) 2) 42 1 (u1.kids_.map (PR gP46))])) 13 (by kernel_rfl) (Sc.stay (fun _ hw => hw.sel [1, 2, 3, 4, 5, 6, 7, 8, 9] (by decide) rfl) (Sc.stay (fun _ hw => hw.sel [1, 2, 3, 4, 5, 6, 7, 8] (by decide) rfl) (Sc.stay (fun _ hw => hw.sel [1, 2, 3, 4, 5, 6, 7] (by decide) rfl) (Sc.stayD (fun _ hw => hw.sel [1, 2, 3, 4, 5, 6] (by decide) rfl))))) (Sc.now (by kernel_rfl) (fun _ hw => hw)) ?_)
    refine V2.eff2 (i1 := 14) (i2 := 26) (by kernel_rfl) rfl rfl ?_ ?_
    ·
     refine L.appM (i := 2) (g := I) (l := u100.keys_) (more := [x130]) h rfl Try.underlying25 eL3 rfl rfl rfl (fun w hw => As.at_ (hw.get (i := 0) rfl)) (plain_ints _) rfl ?_
     intro v133 l134 el134 h
     refine L.nil (E.toV2 (stC [[27, 30], [30]] [Cls w F [.sl v133 3 1 (l134.map I), .sl (sv b132 1) 3 1 (([x130]).map I), .obj (gP46 x3.toNat) [(gv (qP46 x3.toNat) 0), (gv (qP46 x3.toNat) 1), (gv (qP46 x3.toNat) 2)] 46, .sl (gv (qP46 x3.toNat) 1) 9 1 (u100.texts_.map SR), .sl (gv (qP46 x3.toNat) 2) 42 1 (u100.kids_.map (PR gP46)), ar46 gP46 qP46 A46 (x3.toNat :: a0.toNat :: H), .obj (gP46 a0.toNat) [(gv (qP46 a0.toNat) 0), (gv (qP46 a0.toNat) 1), (gv (qP46 a0.toNat) 2)] 46, .sl (gv (qP46 a0.toNat) 0) 3 1 (u1.keys_.map I), .sl (gv (qP46 a0.toNat) 1) 9 1 (u1.texts_.map SR), .sl (gv (qP46 a0.toNat) 2) 42 1 (u1.kids_.map (PR gP46))], Cls w F [.sl v133 3 1 (l134.map I), .sl (sv b132 1) 3 1 (([x130]).map I), .obj (gP46 x3.toNat) [(gv (qP46 x3.toNat) 0), (gv (qP46 x3.toNat) 1), (gv (qP46 x3.toNat) 2)] 46, .sl (gv (qP46 x3.toNat) 2) 42 1 (u100.kids_.map (PR gP46)), ar46 gP46 qP46 A46 (x3.toNat :: a0.toNat :: H), .obj (gP46 a0.toNat) [(gv (qP46 a0.toNat) 0), (gv (qP46 a0.toNat) 1), (gv (qP46 a0.toNat) 2)] 46, .sl (gv (qP46 a0.toNat) 0) 3 1 (u1.keys_.map I), .sl (gv (qP46 a0.toNat) 1) 9 1 (u1.texts_.map SR), .sl (gv (qP46 a0.toNat) 2) 42 1 (u1.kids_.map (PR gP46))]] (Cls w F [.sl v133 3 1 (l134.map I), .sl (sv b132 1) 3 1 (([x130]).map I), .sl (gv (qP46 x3.toNat) 2) 42 1 (u100.kids_.map (PR gP46)), ar46 gP46 qP46 A46 (x3.toNat :: a0.toNat :: H), .obj (gP46 a0.toNat) [(gv (qP46 a0.toNat) 0), (gv (qP46 a0.toNat) 1), (gv (qP46 a0.toNat) 2)] 46, .sl (gv (qP46 a0.toNat) 0) 3 1 (u1.keys_.map I), .sl (gv (qP46 a0.toNat) 1) 9 1 (u1.texts_.map SR), .sl (gv (qP46 a0.toNat) 2) 42 1 (u1.kids_.map (PR gP46))])) 14 (by kernel_rfl) (Sc.past rfl (Sc.stay (fun _ hw => hw.sel [1, 2, 3, 4, 5, 6, 7, 8, 9] (by decide) rfl) (Sc.stay (fun _ hw => hw.sel [1, 2, 3, 4, 5, 6, 7, 8] (by decide) rfl) (Sc.stayD (fun _ hw => hw.sel [1, 2, 3, 4, 5, 6, 7] (by decide) rfl))))) (Sc.now (by kernel_rfl) (fun _ hw => hw)) ?_)
     refine V2.eff (i := 26) (by kernel_rfl) rfl ?_
     refine L.litOne rfl Try.underlying43 eL9 rfl rfl ?_
     intro b135
     refine L.nil (E.toV2 (stC [[27, 30], [30]] [Cls w F [.sl (sv b135 1) 9 1 (([x131]).map SR), .sl v133 3 1 (l134.map I), .sl (sv b132 1) 3 1 (([x130]).map I), .obj (gP46 x3.toNat) [(gv (qP46 x3.toNat) 0), (gv (qP46 x3.toNat) 1), (gv (qP46 x3.toNat) 2)] 46, .sl (gv (qP46 x3.toNat) 1) 9 1 (u100.texts_.map SR), .sl (gv (qP46 x3.toNat) 2) 42 1 (u100.kids_.map (PR gP46)), ar46 gP46 qP46 A46 (x3.toNat :: a0.toNat :: H), .obj (gP46 a0.toNat) [(gv (qP46 a0.toNat) 0), (gv (qP46 a0.toNat) 1), (gv (qP46 a0.toNat) 2)] 46, .sl (gv (qP46 a0.toNat) 0) 3 1 (u1.keys_.map I), .sl (gv (qP46 a0.toNat) 1) 9 1 (u1.texts_.map SR), .sl (gv (qP46 a0.toNat) 2) 42 1 (u1.kids_.map (PR gP46))], Cls w F [.sl (sv b135 1) 9 1 (([x131]).map SR), .sl v133 3 1 (l134.map I), .sl (sv b132 1) 3 1 (([x130]).map I), .obj (gP46 x3.toNat) [(gv (qP46 x3.toNat) 0), (gv (qP46 x3.toNat) 1), (gv (qP46 x3.toNat) 2)] 46, .sl (gv (qP46 x3.toNat) 2) 42 1 (u100.kids_.map (PR gP46)), ar46 gP46 qP46 A46 (x3.toNat :: a0.toNat :: H), .obj (gP46 a0.toNat) [(gv (qP46 a0.toNat) 0), (gv (qP46 a0.toNat) 1), (gv (qP46 a0.toNat) 2)] 46, .sl (gv (qP46 a0.toNat) 0) 3 1 (u1.keys_.map I), .sl (gv (qP46 a0.toNat) 1) 9 1 (u1.texts_.map SR), .sl (gv (qP46 a0.toNat) 2) 42 1 (u1.kids_.map (PR gP46))]] (Cls w F [.sl (sv b135 1) 9 1 (([x131]).map SR), .sl v133 3 1 (l134.map I), .sl (sv b132 1) 3 1 (([x130]).map I), .sl (gv (qP46 x3.toNat) 2) 42 1 (u100.kids_.map (PR gP46)), ar46 gP46 qP46 A46 (x3.toNat :: a0.toNat :: H), .obj (gP46 a0.toNat) [(gv (qP46 a0.toNat) 0), (gv (qP46 a0.toNat) 1), (gv (qP46 a0.toNat) 2)] 46, .sl (gv (qP46 a0.toNat) 0) 3 1 (u1.keys_.map I), .sl (gv (qP46 a0.toNat) 1) 9 1 (u1.texts_.map SR), .sl (gv (qP46 a0.toNat) 2) 42 1 (u1.kids_.map (PR gP46))])) 26 (by kernel_rfl) (Sc.stay (fun _ hw => hw.sel [1, 2, 3, 4, 5, 6, 7, 8, 9, 10] (by decide) rfl) (Sc.stay (fun _ hw => hw.sel [1, 2, 3, 4, 5, 6, 7, 8, 9] (by decide) rfl) (Sc.stayD (fun _ hw => hw.sel [1, 2, 3, 4, 5, 6, 7, 8] (by decide) rfl)))) (Sc.now (by kernel_rfl) (fun _ hw => hw)) ?_)
     refine V2.eff (i := 27) (by kernel_rfl) rfl ?_
     refine L.appM (i := 4) (g := SR) (l := u100.texts_) (more := [x131]) h rfl Try.underlying43 eL9 rfl rfl rfl (fun w hw => As.at_ (hw.get (i := 0) rfl)) (plain_SR _) rfl ?_
     intro v136 l137 el137 h
     refine L.nil (E.toV2 (stC [[30]] [Cls w F [.sl v136 9 1 (l137.map SR), .sl (sv b135 1) 9 1 (([x131]).map SR), .sl v133 3 1 (l134.map I), .sl (sv b132 1) 3 1 (([x130]).map I), .obj (gP46 x3.toNat) [(gv (qP46 x3.toNat) 0), (gv (qP46 x3.toNat) 1), (gv (qP46 x3.toNat) 2)] 46, .sl (gv (qP46 x3.toNat) 2) 42 1 (u100.kids_.map (PR gP46)), ar46 gP46 qP46 A46 (x3.toNat :: a0.toNat :: H), .obj (gP46 a0.toNat) [(gv (qP46 a0.toNat) 0), (gv (qP46 a0.toNat) 1), (gv (qP46 a0.toNat) 2)] 46, .sl (gv (qP46 a0.toNat) 0) 3 1 (u1.keys_.map I), .sl (gv (qP46 a0.toNat) 1) 9 1 (u1.texts_.map SR), .sl (gv (qP46 a0.toNat) 2) 42 1 (u1.kids_.map (PR gP46))]] (Cls w F [.sl v136 9 1 (l137.map SR), .sl (sv b135 1) 9 1 (([x131]).map SR), .sl v133 3 1 (l134.map I), .sl (sv b132 1) 3 1 (([x130]).map I), .sl (gv (qP46 x3.toNat) 2) 42 1 (u100.kids_.map (PR gP46)), ar46 gP46 qP46 A46 (x3.toNat :: a0.toNat :: H), .obj (gP46 a0.toNat) [(gv (qP46 a0.toNat) 0), (gv (qP46 a0.toNat) 1), (gv (qP46 a0.toNat) 2)] 46, .sl (gv (qP46 a0.toNat) 0) 3 1 (u1.keys_.map I), .sl (gv (qP46 a0.toNat) 1) 9 1 (u1.texts_.map SR), .sl (gv (qP46 a0.toNat) 2) 42 1 (u1.kids_.map (PR gP46))])) 27 (by kernel_rfl) (Sc.past rfl (Sc.stay (fun _ hw => hw.sel [1, 2, 3, 4, 5, 6, 7, 8, 9, 10] (by decide) rfl) (Sc.stayD (fun _ hw => hw.sel [1, 2, 3, 4, 5, 6, 7, 8, 9] (by decide) rfl)))) (Sc.now (by kernel_rfl) (fun _ hw => hw)) ?_)
     refine V2.zz [] (Zc.on' (Zc.fin (fun _ hw => hw)) (fun _ hw => hw.sel [0, 1, 2, 3, 5, 6, 7, 8, 9, 10] (by decide) rfl)) (fun hz138 => ?_)
     refine V2.apNil (i := 28) (Nx2.of [] (by kernel_rfl) rfl hz138) rfl rfl rfl eu100 ?_
     refine V2.y (i := 29) (Nx2.of [] (by kernel_rfl) rfl hz138) rfl rfl rfl (Y.fieldP fd46_0 rfl) ?_
     refine V2.eff (i := 30) (by kernel_rfl) rfl ?_
     refine L.storeV (i := 4) sz25 rfl rfl (fun _ hw => (As.at_ (hw.get (i := 2) rfl)).one) rfl (Nat.le_of_ble_eq_true rfl) ?_
     refine L.nil (E.toV2 (stC [] [] (Cls w F [.sl v136 9 1 (l137.map SR), .sl (sv b135 1) 9 1 (([x131]).map SR), .sl v133 3 1 (l134.map I), .sl (sv b132 1) 3 1 (([x130]).map I), .sl (gv (qP46 x3.toNat) 2) 42 1 (u100.kids_.map (PR gP46)), ar46 gP46 qP46 A46 (x3.toNat :: a0.toNat :: H), .obj (gP46 a0.toNat) [(gv (qP46 a0.toNat) 0), (gv (qP46 a0.toNat) 1), (gv (qP46 a0.toNat) 2)] 46, .sl (gv (qP46 a0.toNat) 0) 3 1 (u1.keys_.map I), .sl (gv (qP46 a0.toNat) 1) 9 1 (u1.texts_.map SR), .sl (gv (qP46 a0.toNat) 2) 42 1 (u1.kids_.map (PR gP46))])) 30 (by kernel_rfl) (Sc.past rfl (Sc.stayD (fun _ hw => hw))) (Sc.atD (fun _ hw => hw.sel [0, 1, 2, 3, 5, 6, 7, 8, 9, 10] (by decide) rfl)) ?_)
     refine V2.zz [] (Zc.fin (fun _ hw => hw)) (fun hz139 => ?_)
     refine V2.apNil (i := 31) (Nx2.of [] (by kernel_rfl) rfl hz139) rfl rfl rfl eu100 ?_
     refine V2.y (i := 32) (Nx2.of [] (by kernel_rfl) rfl hz139) rfl rfl rfl (Y.fieldP fd46_1 rfl) ?_
     refine V2.eff (i := 33) (by kernel_rfl) rfl ?_
     refine L.storeV (i := 4) sz43 rfl rfl (fun _ hw => (As.at_ (hw.get (i := 0) rfl)).one) rfl (Nat.le_of_ble_eq_true rfl) ?_
     refine L.nil (E.toV2 (stC [] [] (Cls w F [.sl v136 9 1 (l137.map SR), .sl (sv b135 1) 9 1 (([x131]).map SR), .sl v133 3 1 (l134.map I), .sl (sv b132 1) 3 1 (([x130]).map I), .sl (gv (qP46 x3.toNat) 2) 42 1 (u100.kids_.map (PR gP46)), ar46 gP46 qP46 A46 (x3.toNat :: a0.toNat :: H), .obj (gP46 a0.toNat) [(gv (qP46 a0.toNat) 0), (gv (qP46 a0.toNat) 1), (gv (qP46 a0.toNat) 2)] 46, .sl (gv (qP46 a0.toNat) 0) 3 1 (u1.keys_.map I), .sl (gv (qP46 a0.toNat) 1) 9 1 (u1.texts_.map SR), .sl (gv (qP46 a0.toNat) 2) 42 1 (u1.kids_.map (PR gP46))])) 33 (by kernel_rfl) (Sc.stayD (fun _ hw => hw)) (Sc.atD (fun _ hw => hw.sel [0, 1, 2, 3, 5, 6, 7, 8, 9, 10] (by decide) rfl)) ?_)
     refine V2.done (by kernel_rfl) ?_
     obtain ⟨_, c140, h⟩ := bind1S h
     obtain ⟨l141, el141, h⟩ := bind1S h
     refine E.arClose (row := Tnode.rowA gP46) (sub := Tnode.subA gP46) (e := 46) (g := gP46) (gh := qP46) (vs' := [v133, v136, (gv (qP46 x3.toNat) 2)]) (hs := (a0.toNat :: H)) (hs' := (x3.toNat :: a0.toNat :: H)) (m' := [.sl (sv b135 1) 9 1 (([x131]).map SR), .sl (sv b132 1) 3 1 (([x130]).map I), .obj (gP46 a0.toNat) [(gv (qP46 a0.toNat) 0), (gv (qP46 a0.toNat) 1), (gv (qP46 a0.toNat) 2)] 46, .sl (gv (qP46 a0.toNat) 0) 3 1 (u1.keys_.map I), .sl (gv (qP46 a0.toNat) 1) 9 1 (u1.texts_.map SR), .sl (gv (qP46 a0.toNat) 2) 42 1 (u1.kids_.map (PR gP46))]) [4, 2, 0, 5, 6, 1, 3, 7, 8, 9, 10] el141 (by decide) rfl (fun _ => List.mem_cons) (nin1 (ck_some c102) eu100 eu1 (ck_some c140)) ?_
     intro q142
     have e143 := idx_upd_ne el141 (ck_some c102).symm eu1
     refine E.to (D := Cls w F [ar46 gP46 q142 l141 (a0.toNat :: H), .sl (sv b135 1) 9 1 (([x131]).map SR), .sl (sv b132 1) 3 1 (([x130]).map I), .obj (gP46 a0.toNat) [(gv (qP46 a0.toNat) 0), (gv (qP46 a0.toNat) 1), (gv (qP46 a0.toNat) 2)] 46, .sl (gv (qP46 a0.toNat) 0) 3 1 (u1.keys_.map I), .sl (gv (qP46 a0.toNat) 1) 9 1 (u1.texts_.map SR), .sl (gv (qP46 a0.toNat) 2) 42 1 (u1.kids_.map (PR gP46))]) (fun _ hw => hw) ?_
     obtain ⟨_, c144, h⟩ := bind1S h
     refine E.arKeep (row := Tnode.rowA gP46) (sub := Tnode.subA gP46) (e := 46) (g := gP46) (gh := q142) (vs' := [(gv (qP46 a0.toNat) 0), (gv (qP46 a0.toNat) 1), (gv (qP46 a0.toNat) 2)]) (hs := H) (hs' := (a0.toNat :: H)) (m' := [.sl (sv b135 1) 9 1 (([x131]).map SR), .sl (sv b132 1) 3 1 (([x130]).map I)]) [3, 4, 5, 6, 0, 1, 2] e143 (by decide) rfl (fun _ => List.mem_cons) (ck_some c144) ?_
     intro q145
     refine E.to (D := Cls w F [ar46 gP46 q145 l141 H, .sl (sv b135 1) 9 1 (([x131]).map SR), .sl (sv b132 1) 3 1 (([x130]).map I)]) (fun _ hw => hw) ?_
     exact E.joinJ ⟨l141, q145, rfl, rfl, h⟩ ⟨rfl, rfl, rfl, rfl, trivial⟩ (fun _ hw => hw.sel [0] (by decide) rfl)
    ·
     refine L.litOne rfl Try.underlying43 eL9 rfl rfl ?_
     intro b146
     refine L.nil (E.toV2 (stC [[14, 27, 30], [27, 30], [30]] [Cls w F [.sl (sv b146 1) 9 1 (([x131]).map SR), .sl (sv b132 1) 3 1 (([x130]).map I), .obj (gP46 x3.toNat) [(gv (qP46 x3.toNat) 0), (gv (qP46 x3.toNat) 1), (gv (qP46 x3.toNat) 2)] 46, .sl (gv (qP46 x3.toNat) 0) 3 1 (u100.keys_.map I), .sl (gv (qP46 x3.toNat) 1) 9 1 (u100.texts_.map SR), .sl (gv (qP46 x3.toNat) 2) 42 1 (u100.kids_.map (PR gP46)), ar46 gP46 qP46 A46 (x3.toNat :: a0.toNat :: H), .obj (gP46 a0.toNat) [(gv (qP46 a0.toNat) 0), (gv (qP46 a0.toNat) 1), (gv (qP46 a0.toNat) 2)] 46, .sl (gv (qP46 a0.toNat) 0) 3 1 (u1.keys_.map I), .sl (gv (qP46 a0.toNat) 1) 9 1 (u1.texts_.map SR), .sl (gv (qP46 a0.toNat) 2) 42 1 (u1.kids_.map (PR gP46))], Cls w F [.sl (sv b146 1) 9 1 (([x131]).map SR), .sl (sv b132 1) 3 1 (([x130]).map I), .obj (gP46 x3.toNat) [(gv (qP46 x3.toNat) 0), (gv (qP46 x3.toNat) 1), (gv (qP46 x3.toNat) 2)] 46, .sl (gv (qP46 x3.toNat) 1) 9 1 (u100.texts_.map SR), .sl (gv (qP46 x3.toNat) 2) 42 1 (u100.kids_.map (PR gP46)), ar46 gP46 qP46 A46 (x3.toNat :: a0.toNat :: H), .obj (gP46 a0.toNat) [(gv (qP46 a0.toNat) 0), (gv (qP46 a0.toNat) 1), (gv (qP46 a0.toNat) 2)] 46, .sl (gv (qP46 a0.toNat) 0) 3 1 (u1.keys_.map I), .sl (gv (qP46 a0.toNat) 1) 9 1 (u1.texts_.map SR), .sl (gv (qP46 a0.toNat) 2) 42 1 (u1.kids_.map (PR gP46))], Cls w F [.sl (sv b146 1) 9 1 (([x131]).map SR), .sl (sv b132 1) 3 1 (([x130]).map I), .obj (gP46 x3.toNat) [(gv (qP46 x3.toNat) 0), (gv (qP46 x3.toNat) 1), (gv (qP46 x3.toNat) 2)] 46, .sl (gv (qP46 x3.toNat) 2) 42 1 (u100.kids_.map (PR gP46)), ar46 gP46 qP46 A46 (x3.toNat :: a0.toNat :: H), .obj (gP46 a0.toNat) [(gv (qP46 a0.toNat) 0), (gv (qP46 a0.toNat) 1), (gv (qP46 a0.toNat) 2)] 46, .sl (gv (qP46 a0.toNat) 0) 3 1 (u1.keys_.map I), .sl (gv (qP46 a0.toNat) 1) 9 1 (u1.texts_.map SR), .sl (gv (qP46 a0.toNat) 2) 42 1 (u1.kids_.map (PR gP46))]] (Cls w F [.sl (sv b146 1) 9 1 (([x131]).map SR), .sl (sv b132 1) 3 1 (([x130]).map I), .sl (gv (qP46 x3.toNat) 2) 42 1 (u100.kids_.map (PR gP46)), ar46 gP46 qP46 A46 (x3.toNat :: a0.toNat :: H), .obj (gP46 a0.toNat) [(gv (qP46 a0.toNat) 0), (gv (qP46 a0.toNat) 1), (gv (qP46 a0.toNat) 2)] 46, .sl (gv (qP46 a0.toNat) 0) 3 1 (u1.keys_.map I), .sl (gv (qP46 a0.toNat) 1) 9 1 (u1.texts_.map SR), .sl (gv (qP46 a0.toNat) 2) 42 1 (u1.kids_.map (PR gP46))])) 26 (by kernel_rfl) (Sc.stay (fun _ hw => hw.sel [1, 2, 3, 4, 5, 6, 7, 8, 9, 10] (by decide) rfl) (Sc.stay (fun _ hw => hw.sel [1, 2, 3, 4, 5, 6, 7, 8, 9] (by decide) rfl) (Sc.stay (fun _ hw => hw.sel [1, 2, 3, 4, 5, 6, 7, 8] (by decide) rfl) (Sc.stayD (fun _ hw => hw.sel [1, 2, 3, 4, 5, 6, 7] (by decide) rfl))))) (Sc.now (by kernel_rfl) (fun _ hw => hw)) ?_)
     refine V2.eff (i := 14) (by kernel_rfl) rfl ?_
     refine L.appM (i := 3) (g := I) (l := u100.keys_) (more := [x130]) h rfl Try.underlying25 eL3 rfl rfl rfl (fun w hw => As.at_ (hw.get (i := 1) rfl)) (plain_ints _) rfl ?_
     intro v147 l148 el148 h
     refine L.nil (E.toV2 (stC [[27, 30], [30]] [Cls w F [.sl v147 3 1 (l148.map I), .sl (sv b146 1) 9 1 (([x131]).map SR), .sl (sv b132 1) 3 1 (([x130]).map I), .obj (gP46 x3.toNat) [(gv (qP46 x3.toNat) 0), (gv (qP46 x3.toNat) 1), (gv (qP46 x3.toNat) 2)] 46, .sl (gv (qP46 x3.toNat) 1) 9 1 (u100.texts_.map SR), .sl (gv (qP46 x3.toNat) 2) 42 1 (u100.kids_.map (PR gP46)), ar46 gP46 qP46 A46 (x3.toNat :: a0.toNat :: H), .obj (gP46 a0.toNat) [(gv (qP46 a0.toNat) 0), (gv (qP46 a0.toNat) 1), (gv (qP46 a0.toNat) 2)] 46, .sl (gv (qP46 a0.toNat) 0) 3 1 (u1.keys_.map I), .sl (gv (qP46 a0.toNat) 1) 9 1 (u1.texts_.map SR), .sl (gv (qP46 a0.toNat) 2) 42 1 (u1.kids_.map (PR gP46))], Cls w F [.sl v147 3 1 (l148.map I), .sl (sv b146 1) 9 1 (([x131]).map SR), .sl (sv b132 1) 3 1 (([x130]).map I), .obj (gP46 x3.toNat) [(gv (qP46 x3.toNat) 0), (gv (qP46 x3.toNat) 1), (gv (qP46 x3.toNat) 2)] 46, .sl (gv (qP46 x3.toNat) 2) 42 1 (u100.kids_.map (PR gP46)), ar46 gP46 qP46 A46 (x3.toNat :: a0.toNat :: H), .obj (gP46 a0.toNat) [(gv (qP46 a0.toNat) 0), (gv (qP46 a0.toNat) 1), (gv (qP46 a0.toNat) 2)] 46, .sl (gv (qP46 a0.toNat) 0) 3 1 (u1.keys_.map I), .sl (gv (qP46 a0.toNat) 1) 9 1 (u1.texts_.map SR), .sl (gv (qP46 a0.toNat) 2) 42 1 (u1.kids_.map (PR gP46))]] (Cls w F [.sl v147 3 1 (l148.map I), .sl (sv b146 1) 9 1 (([x131]).map SR), .sl (sv b132 1) 3 1 (([x130]).map I), .sl (gv (qP46 x3.toNat) 2) 42 1 (u100.kids_.map (PR gP46)), ar46 gP46 qP46 A46 (x3.toNat :: a0.toNat :: H), .obj (gP46 a0.toNat) [(gv (qP46 a0.toNat) 0), (gv (qP46 a0.toNat) 1), (gv (qP46 a0.toNat) 2)] 46, .sl (gv (qP46 a0.toNat) 0) 3 1 (u1.keys_.map I), .sl (gv (qP46 a0.toNat) 1) 9 1 (u1.texts_.map SR), .sl (gv (qP46 a0.toNat) 2) 42 1 (u1.kids_.map (PR gP46))])) 14 (by kernel_rfl) (Sc.past rfl (Sc.stay (fun _ hw => hw.sel [1, 2, 3, 4, 5, 6, 7, 8, 9, 10] (by decide) rfl) (Sc.stay (fun _ hw => hw.sel [1, 2, 3, 4, 5, 6, 7, 8, 9] (by decide) rfl) (Sc.stayD (fun _ hw => hw.sel [1, 2, 3, 4, 5, 6, 7, 8] (by decide) rfl))))) (Sc.now (by kernel_rfl) (fun _ hw => hw)) ?_)
     refine V2.eff (i := 27) (by kernel_rfl) rfl ?_
     refine L.appM (i := 4) (g := SR) (l := u100.texts_) (more := [x131]) h rfl Try.underlying43 eL9 rfl rfl rfl (fun w hw => As.at_ (hw.get (i := 1) rfl)) (plain_SR _) rfl ?_
     intro v149 l150 el150 h
     refine L.nil (E.toV2 (stC [[30]] [Cls w F [.sl v149 9 1 (l150.map SR), .sl v147 3 1 (l148.map I), .sl (sv b146 1) 9 1 (([x131]).map SR), .sl (sv b132 1) 3 1 (([x130]).map I), .obj (gP46 x3.toNat) [(gv (qP46 x3.toNat) 0), (gv (qP46 x3.toNat) 1), (gv (qP46 x3.toNat) 2)] 46, .sl (gv (qP46 x3.toNat) 2) 42 1 (u100.kids_.map (PR gP46)), ar46 gP46 qP46 A46 (x3.toNat :: a0.toNat :: H), .obj (gP46 a0.toNat) [(gv (qP46 a0.toNat) 0), (gv (qP46 a0.toNat) 1), (gv (qP46 a0.toNat) 2)] 46, .sl (gv (qP46 a0.toNat) 0) 3 1 (u1.keys_.map I), .sl (gv (qP46 a0.toNat) 1) 9 1 (u1.texts_.map SR), .sl (gv (qP46 a0.toNat) 2) 42 1 (u1.kids_.map (PR gP46))]] (Cls w F [.sl v149 9 1 (l150.map SR), .sl v147 3 1 (l148.map I), .sl (sv b146 1) 9 1 (([x131]).map SR), .sl (sv b132 1) 3 1 (([x130]).map I), .sl (gv (qP46 x3.toNat) 2) 42 1 (u100.kids_.map (PR gP46)), ar46 gP46 qP46 A46 (x3.toNat :: a0.toNat :: H), .obj (gP46 a0.toNat) [(gv (qP46 a0.toNat) 0), (gv (qP46 a0.toNat) 1), (gv (qP46 a0.toNat) 2)] 46, .sl (gv (qP46 a0.toNat) 0) 3 1 (u1.keys_.map I), .sl (gv (qP46 a0.toNat) 1) 9 1 (u1.texts_.map SR), .sl (gv (qP46 a0.toNat) 2) 42 1 (u1.kids_.map (PR gP46))])) 27 (by kernel_rfl) (Sc.past rfl (Sc.stay (fun _ hw => hw.sel [1, 2, 3, 4, 5, 6, 7, 8, 9, 10] (by decide) rfl) (Sc.stayD (fun _ hw => hw.sel [1, 2, 3, 4, 5, 6, 7, 8, 9] (by decide) rfl)))) (Sc.now (by kernel_rfl) (fun _ hw => hw)) ?_)
     refine V2.zz [] (Zc.on' (Zc.fin (fun _ hw => hw)) (fun _ hw => hw.sel [0, 1, 2, 3, 5, 6, 7, 8, 9, 10] (by decide) rfl)) (fun hz151 => ?_)
     refine V2.apNil (i := 28) (Nx2.of [] (by kernel_rfl) rfl hz151) rfl rfl rfl eu100 ?_
     refine V2.y (i := 29) (Nx2.of [] (by kernel_rfl) rfl hz151) rfl rfl rfl (Y.fieldP fd46_0 rfl) ?_
     refine V2.eff (i := 30) (by kernel_rfl) rfl ?_
     refine L.storeV (i := 4) sz25 rfl rfl (fun _ hw => (As.at_ (hw.get (i := 1) rfl)).one) rfl (Nat.le_of_ble_eq_true rfl) ?_
     refine L.nil (E.toV2 (stC [] [] (Cls w F [.sl v149 9 1 (l150.map SR), .sl v147 3 1 (l148.map I), .sl (sv b146 1) 9 1 (([x131]).map SR), .sl (sv b132 1) 3 1 (([x130]).map I), .sl (gv (qP46 x3.toNat) 2) 42 1 (u100.kids_.map (PR gP46)), ar46 gP46 qP46 A46 (x3.toNat :: a0.toNat :: H), .obj (gP46 a0.toNat) [(gv (qP46 a0.toNat) 0), (gv (qP46 a0.toNat) 1), (gv (qP46 a0.toNat) 2)] 46, .sl (gv (qP46 a0.toNat) 0) 3 1 (u1.keys_.map I), .sl (gv (qP46 a0.toNat) 1) 9 1 (u1.texts_.map SR), .sl (gv (qP46 a0.toNat) 2) 42 1 (u1.kids_.map (PR gP46))])) 30 (by kernel_rfl) (Sc.past rfl (Sc.stayD (fun _ hw => hw))) (Sc.atD (fun _ hw => hw.sel [0, 1, 2, 3, 5, 6, 7, 8, 9, 10] (by decide) rfl)) ?_)
     refine V2.zz [] (Zc.fin (fun _ hw => hw)) (fun hz152 => ?_)
     refine V2.apNil (i := 31) (Nx2.of [] (by kernel_rfl) rfl hz152) rfl rfl rfl eu100 ?_
     refine V2.y (i := 32) (Nx2.of [] (by kernel_rfl) rfl hz152) rfl rfl rfl (Y.fieldP fd46_1 rfl) ?_
     refine V2.eff (i := 33) (by kernel_rfl) rfl ?_
     refine L.storeV (i := 4) sz43 rfl rfl (fun _ hw => (As.at_ (hw.get (i := 0) rfl)).one) rfl (Nat.le_of_ble_eq_true rfl) ?_
     refine L.nil (E.toV2 (stC [] [] (Cls w F [.sl v149 9 1 (l150.map SR), .sl v147 3 1 (l148.map I), .sl (sv b146 1) 9 1 (([x131]).map SR), .sl (sv b132 1) 3 1 (([x130]).map I), .sl (gv (qP46 x3.toNat) 2) 42 1 (u100.kids_.map (PR gP46)), ar46 gP46 qP46 A46 (x3.toNat :: a0.toNat :: H), .obj (gP46 a0.toNat) [(gv (qP46 a0.toNat) 0), (gv (qP46 a0.toNat) 1), (gv (qP46 a0.toNat) 2)] 46, .sl (gv (qP46 a0.toNat) 0) 3 1 (u1.keys_.map I), .sl (gv (qP46 a0.toNat) 1) 9 1 (u1.texts_.map SR), .sl (gv (qP46 a0.toNat) 2) 42 1 (u1.kids_.map (PR gP46))])) 33 (by kernel_rfl) (Sc.stayD (fun _ hw => hw)) (Sc.atD (fun _ hw => hw.sel [0, 1, 2, 3, 5, 6, 7, 8, 9, 10] (by decide) rfl)) ?_)
     refine V2.done (by kernel_rfl) ?_
     obtain ⟨_, c153, h⟩ := bind1S h
     obtain ⟨l154, el154, h⟩ := bind1S h
     refine E.arClose (row := Tnode.rowA gP46) (sub := Tnode.subA gP46) (e := 46) (g := gP46) (gh := qP46) (vs' := [v147, v149, (gv (qP46 x3.toNat) 2)]) (hs := (a0.toNat :: H)) (hs' := (x3.toNat :: a0.toNat :: H)) (m' := [.sl (sv b146 1) 9 1 (([x131]).map SR), .sl (sv b132 1) 3 1 (([x130]).map I), .obj (gP46 a0.toNat) [(gv (qP46 a0.toNat) 0), (gv (qP46 a0.toNat) 1), (gv (qP46 a0.toNat) 2)] 46, .sl (gv (qP46 a0.toNat) 0) 3 1 (u1.keys_.map I), .sl (gv (qP46 a0.toNat) 1) 9 1 (u1.texts_.map SR), .sl (gv (qP46 a0.toNat) 2) 42 1 (u1.kids_.map (PR gP46))]) [4, 1, 0, 5, 6, 2, 3, 7, 8, 9, 10] el154 (by decide) rfl (fun _ => List.mem_cons) (nin1 (ck_some c102) eu100 eu1 (ck_some c153)) ?_
     intro q155
     have e156 := idx_upd_ne el154 (ck_some c102).symm eu1
     refine E.to (D := Cls w F [ar46 gP46 q155 l154 (a0.toNat :: H), .sl (sv b146 1) 9 1 (([x131]).map SR), .sl (sv b132 1) 3 1 (([x130]).map I), .obj (gP46 a0.toNat) [(gv (qP46 a0.toNat) 0), (gv (qP46 a0.toNat) 1), (gv (qP46 a0.toNat) 2)] 46, .sl (gv (qP46 a0.toNat) 0) 3 1 (u1.keys_.map I), .sl (gv (qP46 a0.toNat) 1) 9 1 (u1.texts_.map SR), .sl (gv (qP46 a0.toNat) 2) 42 1 (u1.kids_.map (PR gP46))]) (fun _ hw => hw) ?_
     obtain ⟨_, c157, h⟩ := bind1S h
     refine E.arKeep (row := Tnode.rowA gP46) (sub := Tnode.subA gP46) (e := 46) (g := gP46) (gh := q155) (vs' := [(gv (qP46 a0.toNat) 0), (gv (qP46 a0.toNat) 1), (gv (qP46 a0.toNat) 2)]) (hs := H) (hs' := (a0.toNat :: H)) (m' := [.sl (sv b146 1) 9 1 (([x131]).map SR), .sl (sv b132 1) 3 1 (([x130]).map I)]) [3, 4, 5, 6, 0, 1, 2] e156 (by decide) rfl (fun _ => List.mem_cons) (ck_some c157) ?_
     intro q158
     refine E.to (D := Cls w F [ar46 gP46 q158 l154 H, .sl (sv b146 1) 9 1 (([x131]).map SR), .sl (sv b132 1) 3 1 (([x130]).map I)]) (fun _ hw => hw) ?_
     exact E.joinJ ⟨l154, q158, rfl, rfl, h⟩ ⟨rfl, rfl, rfl, rfl, trivial⟩ (fun _ hw => hw.sel [0] (by decide) rfl)
   ·
    refine L.litOne rfl Try.underlying43 eL9 rfl rfl ?_
    intro b159
    refine L.nil (E.toV2 (stC [[14, 27, 30], [27, 30], [30]] [Cls w F [.sl (sv b159 1) 9 1 (([x131]).map SR), .obj (gP46 x3.toNat) [(gv (qP46 x3.toNat) 0), (gv (qP46 x3.toNat) 1), (gv (qP46 x3.toNat) 2)] 46, .sl (gv (qP46 x3.toNat) 0) 3 1 (u100.keys_.map I), .sl (gv (qP46 x3.toNat) 1) 9 1 (u100.texts_.map SR), .sl (gv (qP46 x3.toNat) 2) 42 1 (u100.kids_.map (PR gP46)), ar46 gP46 qP46 A46 (x3.toNat :: a0.toNat :: H), .obj (gP46 a0.toNat) [(gv (qP46 a0.toNat) 0), (gv (qP46 a0.toNat) 1), (gv (qP46 a0.toNat) 2)] 46, .sl (gv (qP46 a0.toNat) 0) 3 1 (u1.keys_.map I), .sl (gv (qP46 a0.toNat) 1) 9 1 (u1.texts_.map SR), .sl (gv (qP46 a0.toNat) 2) 42 1 (u1.kids_.map (PR gP46))], Cls w F [.sl (sv b159 1) 9 1 (([x131]).map SR), .obj (gP46 x3.toNat) [(gv (qP46 x3.toNat) 0), (gv (qP46 x3.toNat) 1), (gv (qP46 x3.toNat) 2)] 46, .sl (gv (qP46 x3.toNat) 1) 9 1 (u100.texts_.map SR), .sl (gv (qP46 x3.toNat) 2) 42 1 (u100.kids_.map (PR gP46)), ar46 gP46 qP46 A46 (x3.toNat :: a0.toNat :: H), .obj (gP46 a0.toNat) [(gv (qP46 a0.toNat) 0), (gv (qP46 a0.toNat) 1), (gv (qP46 a0.toNat) 2)] 46, .sl (gv (qP46 a0.toNat) 0) 3 1 (u1.keys_.map I), .sl (gv (qP46 a0.toNat) 1) 9 1 (u1.texts_.map SR), .sl (gv (qP46 a0.toNat) 2) 42 1 (u1.kids_.map (PR gP46))], Cls w F [.sl (sv b159 1) 9 1 (([x131]).map SR), .obj (gP46 x3.toNat) [(gv (qP46 x3.toNat) 0), (gv (qP46 x3.toNat) 1), (gv (qP46 x3.toNat) 2)] 46, .sl (gv (qP46 x3.toNat) 2) 42 1 (u100.kids_.map (PR gP46)), ar46 gP46 qP46 A46 (x3.toNat :: a0.toNat :: H), .obj (gP46 a0.toNat) [(gv (qP46 a0.toNat) 0), (gv (qP46 a0.toNat) 1), (gv (qP46 a0.toNat) 2)] 46, .sl (gv (qP46 a0.toNat) 0) 3 1 (u1.keys_.map I), .sl (gv (qP46 a0.toNat) 1) 9 1 (u1.texts_.map SR), .sl (gv (qP46 a0.toNat) 2) 42 1 (u1.kids_.map (PR gP46))]] (Cls w F [.sl (sv b159 1) 9 1 (([x131]).map SR), .sl (gv (qP46 x3.toNat) 2) 42 1 (u100.kids_.map (PR gP46)), ar46 gP46 qP46 A46 (x3.toNat :: a0.toNat :: H), .obj (gP46 a0.toNat) [(gv (qP46 a0.toNat) 0), (gv (qP46 a0.toNat) 1), (gv (qP46 a0.toNat) 2)] 46, .sl (gv (qP46 a0.toNat) 0) 3 1 (u1.keys_.map I), .sl (gv (qP46 a0.toNat) 1) 9 1 (u1.texts_.map SR), .sl (gv (qP46 a0.toNat) 2) 42 1 (u1.kids_.map (PR gP46))])) 26 (by kernel_rfl) (Sc.stay (fun _ hw => hw.sel [1, 2, 3, 4, 5, 6, 7, 8, 9] (by decide) rfl) (Sc.stay (fun _ hw => hw.sel [1, 2, 3, 4, 5, 6, 7, 8] (by decide) rfl) (Sc.stay (fun _ hw => hw.sel [1, 2, 3, 4, 5, 6, 7] (by decide) rfl) (Sc.stayD (fun _ hw => hw.sel [1, 2, 3, 4, 5, 6] (by decide) rfl))))) (Sc.now (by kernel_rfl) (fun _ hw => hw)) ?_)
    refine V2.eff (i := 13) (by kernel_rfl) rfl ?_
    refine L.litOne rfl Try.underlying25 eL3 rfl rfl ?_
    intro b160
    refine L.nil (E.toV2 (stC [[14, 27, 30], [27, 30], [30]] [Cls w F [.sl (sv b160 1) 3 1 (([x130]).map I), .sl (sv b159 1) 9 1 (([x131]).map SR), .obj (gP46 x3.toNat) [(gv (qP46 x3.toNat) 0), (gv (qP46 x3.toNat) 1), (gv (qP46 x3.toNat) 2)] 46, .sl (gv (qP46 x3.toNat) 0) 3 1 (u100.keys_.map I), .sl (gv (qP46 x3.toNat) 1) 9 1 (u100.texts_.map SR), .sl (gv (qP46 x3.toNat) 2) 42 1 (u100.kids_.map (PR gP46)), ar46 gP46 qP46 A46 (x3.toNat :: a0.toNat :: H), .obj (gP46 a0.toNat) [(gv (qP46 a0.toNat) 0), (gv (qP46 a0.toNat) 1), (gv (qP46 a0.toNat) 2)] 46, .sl (gv (qP46 a0.toNat) 0) 3 1 (u1.keys_.map I), .sl (gv (qP46 a0.toNat) 1) 9 1 (u1.texts_.map SR), .sl (gv (qP46 a0.toNat) 2) 42 1 (u1.kids_.map (PR gP46))], Cls w F [.sl (sv b160 1) 3 1 (([x130]).map I), .sl (sv b159 1) 9 1 (([x131]).map SR), .obj (gP46 x3.toNat) [(gv (qP46 x3.toNat) 0), (gv (qP46 x3.toNat) 1), (gv (qP46 x3.toNat) 2)] 46, .sl (gv (qP46 x3.toNat) 1) 9 1 (u100.texts_.map SR), .sl (gv (qP46 x3.toNat) 2) 42 1 (u100.kids_.map (PR gP46)), ar46 gP46 qP46 A46 (x3.toNat :: a0.toNat :: H), .obj (gP46 a0.toNat) [(gv (qP46 a0.toNat) 0), (gv (qP46 a0.toNat) 1), (gv (qP46 a0.toNat) 2)] 46, .sl (gv (qP46 a0.toNat) 0) 3 1 (u1.keys_.map I), .sl (gv (qP46 a0.toNat) 1) 9 1 (u1.texts_.map SR), .sl (gv (qP46 a0.toNat) 2) 42 1 (u1.kids_.map (PR gP46))], Cls w F [.sl (sv b160 1) 3 1 (([x130]).map I), .sl (sv b159 1) 9 1 (([x131]).map SR), .obj (gP46 x3.toNat) [(gv (qP46 x3.toNat) 0), (gv (qP46 x3.toNat) 1), (gv (qP46 x3.toNat) 2)] 46, .sl (gv (qP46 x3.toNat) 2) 42 1 (u100.kids_.map (PR gP46)), ar46 gP46 qP46 A46 (x3.toNat :: a0.toNat :: H), .obj (gP46 a0.toNat) [(gv (qP46 a0.toNat) 0), (gv (qP46 a0.toNat) 1), (gv (qP46 a0.toNat) 2)] 46, .sl (gv (qP46 a0.toNat) 0) 3 1 (u1.keys_.map I), .sl (gv (qP46 a0.toNat) 1) 9 1 (u1.texts_.map SR), .sl (gv (qP46 a0.toNat) 2) 42 1 (u1.kids_.map (PR gP46))]] (Cls w F [.sl (sv b160 1) 3 1 (([x130]).map I), .sl (sv b159 1) 9 1 (([x131]).map SR), .sl (gv (qP46 x3.toNat) 2) 42 1 (u100.kids_.map (PR gP46)), ar46 gP46 qP46 A46 (x3.toNat :: a0.toNat :: H), .obj (gP46 a0.toNat) [(gv (qP46 a0.toNat) 0), (gv (qP46 a0.toNat) 1), (gv (qP46 a0.toNat) 2)] 46, .sl (gv (qP46 a0.toNat) 0) 3 1 (u1.keys_.map I), .sl (gv (qP46 a0.toNat) 1) 9 1 (u1.texts_.map SR), .sl (gv (qP46 a0.toNat) 2) 42 1 (u1.kids_.map (PR gP46))])) 13 (by kernel_rfl) (Sc.stay (fun _ hw => hw.sel [1, 2, 3, 4, 5, 6, 7, 8, 9, 10] (by decide) rfl) (Sc.stay (fun _ hw => hw.sel [1, 2, 3, 4, 5, 6, 7, 8, 9] (by decide) rfl) (Sc.stay (fun _ hw => hw.sel [1, 2, 3, 4, 5, 6, 7, 8] (by decide) rfl) (Sc.stayD (fun _ hw => hw.sel [1, 2, 3, 4, 5, 6, 7] (by decide) rfl))))) (Sc.now (by kernel_rfl) (fun _ hw => hw)) ?_)
    refine V2.eff (i := 14) (by kernel_rfl) rfl ?_
    refine L.appM (i := 3) (g := I) (l := u100.keys_) (more := [x130]) h rfl Try.underlying25 eL3 rfl rfl rfl (fun w hw => As.at_ (hw.get (i := 0) rfl)) (plain_ints _) rfl ?_
    intro v161 l162 el162 h
    refine L.nil (E.toV2 (stC [[27, 30], [30]] [Cls w F [.sl v161 3 1 (l162.map I), .sl (sv b160 1) 3 1 (([x130]).map I), .sl (sv b159 1) 9 1 (([x131]).map SR), .obj (gP46 x3.toNat) [(gv (qP46 x3.toNat) 0), (gv (qP46 x3.toNat) 1), (gv (qP46 x3.toNat) 2)] 46, .sl (gv (qP46 x3.toNat) 1) 9 1 (u100.texts_.map SR), .sl (gv (qP46 x3.toNat) 2) 42 1 (u100.kids_.map (PR gP46)), ar46 gP46 qP46 A46 (x3.toNat :: a0.toNat :: H), .obj (gP46 a0.toNat) [(gv (qP46 a0.toNat) 0), (gv (qP46 a0.toNat) 1), (gv (qP46 a0.toNat) 2)] 46, .sl (gv (qP46 a0.toNat) 0) 3 1 (u1.keys_.map I), .sl (gv (qP46 a0.toNat) 1) 9 1 (u1.texts_.map SR), .sl (gv (qP46 a0.toNat) 2) 42 1 (u1.kids_.map (PR gP46))], Cls w F [.sl v161 3 1 (l162.map I), .sl (sv b160 1) 3 1 (([x130]).map I), .sl (sv b159 1) 9 1 (([x131]).map SR), .obj (gP46 x3.toNat) [(gv (qP46 x3.toNat) 0), (gv (qP46 x3.toNat) 1), (gv (qP46 x3.toNat) 2)] 46, .sl (gv (qP46 x3.toNat) 2) 42 1 (u100.kids_.map (PR gP46)), ar46 gP46 qP46 A46 (x3.toNat :: a0.toNat :: H), .obj (gP46 a0.toNat) [(gv (qP46 a0.toNat) 0), (gv (qP46 a0.toNat) 1), (gv (qP46 a0.toNat) 2)] 46, .sl (gv (qP46 a0.toNat) 0) 3 1 (u1.keys_.map I), .sl (gv (qP46 a0.toNat) 1) 9 1 (u1.texts_.map SR), .sl (gv (qP46 a0.toNat) 2) 42 1 (u1.kids_.map (PR gP46))]] (Cls w F [.sl v161 3 1 (l162.map I), .sl (sv b160 1) 3 1 (([x130]).map I), .sl (sv b159 1) 9 1 (([x131]).map SR), .sl (gv (qP46 x3.toNat) 2) 42 1 (u100.kids_.map (PR gP46)), ar46 gP46 qP46 A46 (x3.toNat :: a0.toNat :: H), .obj (gP46 a0.toNat) [(gv (qP46 a0.toNat) 0), (gv (qP46 a0.toNat) 1), (gv (qP46 a0.toNat) 2)] 46, .sl (gv (qP46 a0.toNat) 0) 3 1 (u1.keys_.map I), .sl (gv (qP46 a0.toNat) 1) 9 1 (u1.texts_.map SR), .sl (gv (qP46 a0.toNat) 2) 42 1 (u1.kids_.map (PR gP46))])) 14 (by kernel_rfl) (Sc.past rfl (Sc.stay (fun _ hw => hw.sel [1, 2, 3, 4, 5, 6, 7, 8, 9, 10] (by decide) rfl) (Sc.stay (fun _ hw => hw.sel [1, 2, 3, 4, 5, 6, 7, 8, 9] (by decide) rfl) (Sc.stayD (fun _ hw => hw.sel [1, 2, 3, 4, 5, 6, 7, 8] (by decide) rfl))))) (Sc.now (by kernel_rfl) (fun _ hw => hw)) ?_)
    refine V2.eff (i := 27) (by kernel_rfl) rfl ?_
    refine L.appM (i := 4) (g := SR) (l := u100.texts_) (more := [x131]) h rfl Try.underlying43 eL9 rfl rfl rfl (fun w hw => As.at_ (hw.get (i := 2) rfl)) (plain_SR _) rfl ?_
    intro v163 l164 el164 h
    refine L.nil (E.toV2 (stC [[30]] [Cls w F [.sl v163 9 1 (l164.map SR), .sl v161 3 1 (l162.map I), .sl (sv b160 1) 3 1 (([x130]).map I), .sl (sv b159 1) 9 1 (([x131]).map SR), .obj (gP46 x3.toNat) [(gv (qP46 x3.toNat) 0), (gv (qP46 x3.toNat) 1), (gv (qP46 x3.toNat) 2)] 46, .sl (gv (qP46 x3.toNat) 2) 42 1 (u100.kids_.map (PR gP46)), ar46 gP46 qP46 A46 (x3.toNat :: a0.toNat :: H), .obj (gP46 a0.toNat) [(gv (qP46 a0.toNat) 0), (gv (qP46 a0.toNat) 1), (gv (qP46 a0.toNat) 2)] 46, .sl (gv (qP46 a0.toNat) 0) 3 1 (u1.keys_.map I), .sl (gv (qP46 a0.toNat) 1) 9 1 (u1.texts_.map SR), .sl (gv (qP46 a0.toNat) 2) 42 1 (u1.kids_.map (PR gP46))]] (Cls w F [.sl v163 9 1 (l164.map SR), .sl v161 3 1 (l162.map I), .sl (sv b160 1) 3 1 (([x130]).map I), .sl (sv b159 1) 9 1 (([x131]).map SR), .sl (gv (qP46 x3.toNat) 2) 42 1 (u100.kids_.map (PR gP46)), ar46 gP46 qP46 A46 (x3.toNat :: a0.toNat :: H), .obj (gP46 a0.toNat) [(gv (qP46 a0.toNat) 0), (gv (qP46 a0.toNat) 1), (gv (qP46 a0.toNat) 2)] 46, .sl (gv (qP46 a0.toNat) 0) 3 1 (u1.keys_.map I), .sl (gv (qP46 a0.toNat) 1) 9 1 (u1.texts_.map SR), .sl (gv (qP46 a0.toNat) 2) 42 1 (u1.kids_.map (PR gP46))])) 27 (by kernel_rfl) (Sc.past rfl (Sc.stay (fun _ hw => hw.sel [1, 2, 3, 4, 5, 6, 7, 8, 9, 10] (by decide) rfl) (Sc.stayD (fun _ hw => hw.sel [1, 2, 3, 4, 5, 6, 7, 8, 9] (by decide) rfl)))) (Sc.now (by kernel_rfl) (fun _ hw => hw)) ?_)
    refine V2.zz [] (Zc.on' (Zc.fin (fun _ hw => hw)) (fun _ hw => hw.sel [0, 1, 2, 3, 5, 6, 7, 8, 9, 10] (by decide) rfl)) (fun hz165 => ?_)
    refine V2.apNil (i := 28) (Nx2.of [] (by kernel_rfl) rfl hz165) rfl rfl rfl eu100 ?_
    refine V2.y (i := 29) (Nx2.of [] (by kernel_rfl) rfl hz165) rfl rfl rfl (Y.fieldP fd46_0 rfl) ?_
    refine V2.eff (i := 30) (by kernel_rfl) rfl ?_
    refine L.storeV (i := 4) sz25 rfl rfl (fun _ hw => (As.at_ (hw.get (i := 1) rfl)).one) rfl (Nat.le_of_ble_eq_true rfl) ?_
    refine L.nil (E.toV2 (stC [] [] (Cls w F [.sl v163 9 1 (l164.map SR), .sl v161 3 1 (l162.map I), .sl (sv b160 1) 3 1 (([x130]).map I), .sl (sv b159 1) 9 1 (([x131]).map SR), .sl (gv (qP46 x3.toNat) 2) 42 1 (u100.kids_.map (PR gP46)), ar46 gP46 qP46 A46 (x3.toNat :: a0.toNat :: H), .obj (gP46 a0.toNat) [(gv (qP46 a0.toNat) 0), (gv (qP46 a0.toNat) 1), (gv (qP46 a0.toNat) 2)] 46, .sl (gv (qP46 a0.toNat) 0) 3 1 (u1.keys_.map I), .sl (gv (qP46 a0.toNat) 1) 9 1 (u1.texts_.map SR), .sl (gv (qP46 a0.toNat) 2) 42 1 (u1.kids_.map (PR gP46))])) 30 (by kernel_rfl) (Sc.past rfl (Sc.stayD (fun _ hw => hw))) (Sc.atD (fun _ hw => hw.sel [0, 1, 2, 3, 5, 6, 7, 8, 9, 10] (by decide) rfl)) ?_)
    refine V2.zz [] (Zc.fin (fun _ hw => hw)) (fun hz166 => ?_)
    refine V2.apNil (i := 31) (Nx2.of [] (by kernel_rfl) rfl hz166) rfl rfl rfl eu100 ?_
    refine V2.y (i := 32) (Nx2.of [] (by kernel_rfl) rfl hz166) rfl rfl rfl (Y.fieldP fd46_1 rfl) ?_
    refine V2.eff (i := 33) (by kernel_rfl) rfl ?_
    refine L.storeV (i := 4) sz43 rfl rfl (fun _ hw => (As.at_ (hw.get (i := 0) rfl)).one) rfl (Nat.le_of_ble_eq_true rfl) ?_
    refine L.nil (E.toV2 (stC [] [] (Cls w F [.sl v163 9 1 (l164.map SR), .sl v161 3 1 (l162.map I), .sl (sv b160 1) 3 1 (([x130]).map I), .sl (sv b159 1) 9 1 (([x131]).map SR), .sl (gv (qP46 x3.toNat) 2) 42 1 (u100.kids_.map (PR gP46)), ar46 gP46 qP46 A46 (x3.toNat :: a0.toNat :: H), .obj (gP46 a0.toNat) [(gv (qP46 a0.toNat) 0), (gv (qP46 a0.toNat) 1), (gv (qP46 a0.toNat) 2)] 46, .sl (gv (qP46 a0.toNat) 0) 3 1 (u1.keys_.map I), .sl (gv (qP46 a0.toNat) 1) 9 1 (u1.texts_.map SR), .sl (gv (qP46 a0.toNat) 2) 42 1 (u1.kids_.map (PR gP46))])) 33 (by kernel_rfl) (Sc.stayD (fun _ hw => hw)) (Sc.atD (fun _ hw => hw.sel [0, 1, 2, 3, 5, 6, 7, 8, 9, 10] (by decide) rfl)) ?_)
    refine V2.done (by kernel_rfl) ?_
    obtain ⟨_, c167, h⟩ := bind1S h
    obtain ⟨l168, el168, h⟩ := bind1S h
    refine E.arClose (row := Tnode.rowA gP46) (sub := Tnode.subA gP46) (e := 46) (g := gP46) (gh := qP46) (vs' := [v161, v163, (gv (qP46 x3.toNat) 2)]) (hs := (a0.toNat :: H)) (hs' := (x3.toNat :: a0.toNat :: H)) (m' := [.sl (sv b160 1) 3 1 (([x130]).map I), .sl (sv b159 1) 9 1 (([x131]).map SR), .obj (gP46 a0.toNat) [(gv (qP46 a0.toNat) 0), (gv (qP46 a0.toNat) 1), (gv (qP46 a0.toNat) 2)] 46, .sl (gv (qP46 a0.toNat) 0) 3 1 (u1.keys_.map I), .sl (gv (qP46 a0.toNat) 1) 9 1 (u1.texts_.map SR), .sl (gv (qP46 a0.toNat) 2) 42 1 (u1.kids_.map (PR gP46))]) [4, 1, 0, 5, 6, 2, 3, 7, 8, 9, 10] el168 (by decide) rfl (fun _ => List.mem_cons) (nin1 (ck_some c102) eu100 eu1 (ck_some c167)) ?_
    intro q169
    have e170 := idx_upd_ne el168 (ck_some c102).symm eu1
    refine E.to (D := Cls w F [ar46 gP46 q169 l168 (a0.toNat :: H), .sl (sv b160 1) 3 1 (([x130]).map I), .sl (sv b159 1) 9 1 (([x131]).map SR), .obj (gP46 a0.toNat) [(gv (qP46 a0.toNat) 0), (gv (qP46 a0.toNat) 1), (gv (qP46 a0.toNat) 2)] 46, .sl (gv (qP46 a0.toNat) 0) 3 1 (u1.keys_.map I), .sl (gv (qP46 a0.toNat) 1) 9 1 (u1.texts_.map SR), .sl (gv (qP46 a0.toNat) 2) 42 1 (u1.kids_.map (PR gP46))]) (fun _ hw => hw) ?_
    obtain ⟨_, c171, h⟩ := bind1S h
    refine E.arKeep (row := Tnode.rowA gP46) (sub := Tnode.subA gP46) (e := 46) (g := gP46) (gh := q169) (vs' := [(gv (qP46 a0.toNat) 0), (gv (qP46 a0.toNat) 1), (gv (qP46 a0.toNat) 2)]) (hs := H) (hs' := (a0.toNat :: H)) (m' := [.sl (sv b160 1) 3 1 (([x130]).map I), .sl (sv b159 1) 9 1 (([x131]).map SR)]) [3, 4, 5, 6, 0, 1, 2] e170 (by decide) rfl (fun _ => List.mem_cons) (ck_some c171) ?_
    intro q172
    refine E.to (D := Cls w F [ar46 gP46 q172 l168 H, .sl (sv b160 1) 3 1 (([x130]).map I), .sl (sv b159 1) 9 1 (([x131]).map SR)]) (fun _ hw => hw) ?_
    exact E.joinJ ⟨l168, q172, rfl, rfl, h⟩ ⟨rfl, rfl, rfl, rfl, trivial⟩ (fun _ hw => hw.sel [0] (by decide) rfl)
  ·
   rintro _ _ ⟨gl1, gq2, rfl, rfl, h⟩
   rw [m35_tree_node_left_K1] at h
   refine W.seq ?_
   obtain ⟨u6, eu6, h⟩ := bind1S h
   obtain ⟨_, c7, h⟩ := bind1S h
   refine W.to (D := Cls w F [.obj (gP46 a0.toNat) [(gv (gq2 a0.toNat) 0), (gv (gq2 a0.toNat) 1), (gv (gq2 a0.toNat) 2)] 46, .sl (gv (gq2 a0.toNat) 0) 3 1 (u6.keys_.map I), .sl (gv (gq2 a0.toNat) 1) 9 1 (u6.texts_.map SR), .sl (gv (gq2 a0.toNat) 2) 42 1 (u6.kids_.map (PR gP46)), ar46 gP46 gq2 gl1 (a0.toNat :: H)]) (fun _ hw => hw.arOpen (p := 0) rfl eu6 (ck_some c7)) ?_
   obtain ⟨u8, eu8, h⟩ := bind1S h
   obtain ⟨_, c9, h⟩ := bind1S h
   obtain ⟨_, c10, h⟩ := bind1S h
   refine W.to (D := Cls w F [.obj (gP46 x5.toNat) [(gv (gq2 x5.toNat) 0), (gv (gq2 x5.toNat) 1), (gv (gq2 x5.toNat) 2)] 46, .sl (gv (gq2 x5.toNat) 0) 3 1 (u8.keys_.map I), .sl (gv (gq2 x5.toNat) 1) 9 1 (u8.texts_.map SR), .sl (gv (gq2 x5.toNat) 2) 42 1 (u8.kids_.map (PR gP46)), ar46 gP46 gq2 gl1 (x5.toNat :: a0.toNat :: H), .obj (gP46 a0.toNat) [(gv (gq2 a0.toNat) 0), (gv (gq2 a0.toNat) 1), (gv (gq2 a0.toNat) 2)] 46, .sl (gv (gq2 a0.toNat) 0) 3 1 (u6.keys_.map I), .sl (gv (gq2 a0.toNat) 1) 9 1 (u6.texts_.map SR), .sl (gv (gq2 a0.toNat) 2) 42 1 (u6.kids_.map (PR gP46))]) (fun _ hw => hw.arOpen (p := 4) rfl eu8 (nin1 (ck_some c10) eu8 eu6 (ck_some c9))) ?_
   refine W.drawn2 (k := 26) (stC [[23, 25], [25]] [Cls w F [.obj (gP46 x5.toNat) [(gv (gq2 x5.toNat) 0), (gv (gq2 x5.toNat) 1), (gv (gq2 x5.toNat) 2)] 46, .sl (gv (gq2 x5.toNat) 0) 3 1 (u8.keys_.map I), .sl (gv (gq2 x5.toNat) 1) 9 1 (u8.texts_.map SR), .sl (gv (gq2 x5.toNat) 2) 42 1 (u8.kids_.map (PR gP46)), ar46 gP46 gq2 gl1 (x5.toNat :: a0.toNat :: H), .obj (gP46 a0.toNat) [(gv (gq2 a0.toNat) 0), (gv (gq2 a0.toNat) 1), (gv (gq2 a0.toNat) 2)] 46, .sl (gv (gq2 a0.toNat) 0) 3 1 (u6.keys_.map I), .sl (gv (gq2 a0.toNat) 1) 9 1 (u6.texts_.map SR), .sl (gv (gq2 a0.toNat) 2) 42 1 (u6.kids_.map (PR gP46))], Cls w F [.obj (gP46 x5.toNat) [(gv (gq2 x5.toNat) 0), (gv (gq2 x5.toNat) 1), (gv (gq2 x5.toNat) 2)] 46, .sl (gv (gq2 x5.toNat) 0) 3 1 (u8.keys_.map I), .sl (gv (gq2 x5.toNat) 1) 9 1 (u8.texts_.map SR), .sl (gv (gq2 x5.toNat) 2) 42 1 (u8.kids_.map (PR gP46)), ar46 gP46 gq2 gl1 (x5.toNat :: a0.toNat :: H), .obj (gP46 a0.toNat) [(gv (gq2 a0.toNat) 0), (gv (gq2 a0.toNat) 1), (gv (gq2 a0.toNat) 2)] 46, .sl (gv (gq2 a0.toNat) 1) 9 1 (u6.texts_.map SR), .sl (gv (gq2 a0.toNat) 2) 42 1 (u6.kids_.map (PR gP46))]] (Cls w F [.obj (gP46 x5.toNat) [(gv (gq2 x5.toNat) 0), (gv (gq2 x5.toNat) 1), (gv (gq2 x5.toNat) 2)] 46, .sl (gv (gq2 x5.toNat) 0) 3 1 (u8.keys_.map I), .sl (gv (gq2 x5.toNat) 1) 9 1 (u8.texts_.map SR), .sl (gv (gq2 x5.toNat) 2) 42 1 (u8.kids_.map (PR gP46)), ar46 gP46 gq2 gl1 (x5.toNat :: a0.toNat :: H), .obj (gP46 a0.toNat) [(gv (gq2 a0.toNat) 0), (gv (gq2 a0.toNat) 1), (gv (gq2 a0.toNat) 2)] 46, .sl (gv (gq2 a0.toNat) 2) 42 1 (u6.kids_.map (PR gP46))])) rfl mixed (fun _ hw => hw.drew) (Sc.now (by kernel_rfl) (fun _ hw => hw)) ?_
   refine V2.zz [] (Zc.on' (Zc.on' (Zc.fin (fun _ hw => hw)) (fun _ hw => hw.sel [0, 1, 2, 3, 4, 5, 7] (by decide) rfl)) (fun _ hw => hw.sel [0, 1, 2, 3, 4, 5, 8] (by decide) rfl)) (fun hz25 => ?_)
   refine V2.y (i := 0) (Nx2.of [] (by kernel_rfl) rfl hz25) rfl rfl rfl (Y.move rfl) ?_
   refine V2.apNil (i := 1) (Nx2.of [] (by kernel_rfl) rfl hz25) rfl rfl rfl eu6 ?_
   refine V2.y (i := 2) (Nx2.of [] (by kernel_rfl) rfl hz25) rfl rfl rfl (Y.fieldP fd46_0 rfl) ?_
   refine V2.y (i := 3) (Nx2.of [] (by kernel_rfl) rfl hz25) rfl rfl rfl (Y.loadP (i := 5) ag25 rfl rfl rfl) ?_
   refine V2.y (i := 4) (Nx2.of [] (by kernel_rfl) rfl hz25) rfl rfl rfl (Y.move rfl) ?_
   refine V2.y (i := 5) (Nx2.of [] (by kernel_rfl) rfl hz25) rfl rfl rfl (Y.move rfl) ?_
   refine V2.apNil (i := 6) (Nx2.of [] (by kernel_rfl) rfl hz25) rfl rfl rfl eu6 ?_
   refine V2.y (i := 7) (Nx2.of [] (by kernel_rfl) rfl hz25) rfl rfl rfl (Y.fieldP fd46_1 rfl) ?_
   refine V2.y (i := 8) (Nx2.of [] (by kernel_rfl) rfl hz25) rfl rfl rfl (Y.loadP (i := 5) ag43 rfl rfl rfl) ?_
   refine V2.y (i := 9) (Nx2.of [] (by kernel_rfl) rfl hz25) rfl rfl rfl (Y.move rfl) ?_
   refine V2.y (i := 10) (Nx2.of [] (by kernel_rfl) rfl hz25) rfl rfl rfl (Y.move rfl) ?_
   refine V2.apNil (i := 11) (Nx2.of [] (by kernel_rfl) rfl hz25) rfl rfl rfl eu8 ?_
   refine V2.y (i := 12) (Nx2.of [] (by kernel_rfl) rfl hz25) rfl rfl rfl (Y.fieldP fd46_0 rfl) ?_
   refine V2.y (i := 13) (Nx2.of [] (by kernel_rfl) rfl hz25) rfl rfl rfl (Y.loadP (i := 0) ag25 rfl rfl rfl) ?_
   refine V2.m (i := 14) (V' := fun _ => el (gv (gq2 x5.toNat) 0) ((0 : Int).toNat * 1)) h (Nx2.of [] (by kernel_rfl) rfl hz25) rfl rfl rfl (Y.indexM (g := I) (l := u8.keys_) Try.underlying25 sz3 rfl rfl (fun w hw => As.at_ (hw.get (i := 1) rfl))) (fun x26 ex26 h => ?_)
   refine V2.y (i := 15) (Nx2.of [] (by kernel_rfl) rfl hz25) rfl rfl rfl (Y.loadE1 (u := .int .i64 x26) ag3 rfl (fun w hw => As.at_ (hw.get (i := 1) rfl)) (idx_map ex26)) ?_
   refine V2.y (i := 16) (Nx2.of [] (by kernel_rfl) rfl hz25) rfl rfl rfl (Y.move rfl) ?_
   refine V2.apNil (i := 17) (Nx2.of [] (by kernel_rfl) rfl hz25) rfl rfl rfl eu8 ?_
   refine V2.y (i := 18) (Nx2.of [] (by kernel_rfl) rfl hz25) rfl rfl rfl (Y.fieldP fd46_1 rfl) ?_
   refine V2.y (i := 19) (Nx2.of [] (by kernel_rfl) rfl hz25) rfl rfl rfl (Y.loadP (i := 0) ag43 rfl rfl rfl) ?_
   refine V2.m (i := 20) (V' := fun _ => el (gv (gq2 x5.toNat) 1) ((0 : Int).toNat * 1)) h (Nx2.of [] (by kernel_rfl) rfl hz25) rfl rfl rfl (Y.indexM (g := SR) (l := u8.texts_) Try.underlying43 sz9 rfl rfl (fun w hw => As.at_ (hw.get (i := 2) rfl))) (fun x27 ex27 h => ?_)
   refine V2.y (i := 21) (Nx2.of [] (by kernel_rfl) rfl hz25) rfl rfl rfl (Y.loadE1 (u := st x27) ag9 rfl (fun w hw => As.at_ (hw.get (i := 2) rfl)) (idx_map ex27)) ?_
   refine V2.zz [23, 25] (Zc.at1 (fun _ hw => hw)) (fun hz29 => ?_)
   refine V2.m (i := 22) (V' := fun _ => el (gv (gq2 a0.toNat) 0) (a1.toNat * 1)) h (Nx2.of [23, 25] (by kernel_rfl) rfl hz29) rfl rfl rfl (Y.indexM (g := I) (l := u6.keys_) Try.underlying25 sz3 rfl rfl (fun w hw => As.at_ (hw.get (i := 6) rfl))) (fun x30 ex30 h => ?_)
   refine V2.eff (i := 23) (by kernel_rfl) rfl ?_
   refine L.storeSlM (q := 6) (row := I) (vs := [.int .i64 x26]) (j := 0) (u1 := x26) h sz3 rfl rfl rfl rfl rfl (all1 rfl all0) rfl ex30 rfl rfl ?_
   intro l31 el31 h
   refine L.nil (E.toV2 (stC [[25]] [Cls w F [.obj (gP46 x5.toNat) [(gv (gq2 x5.toNat) 0), (gv (gq2 x5.toNat) 1), (gv (gq2 x5.toNat) 2)] 46, .sl (gv (gq2 x5.toNat) 0) 3 1 (u8.keys_.map I), .sl (gv (gq2 x5.toNat) 1) 9 1 (u8.texts_.map SR), .sl (gv (gq2 x5.toNat) 2) 42 1 (u8.kids_.map (PR gP46)), ar46 gP46 gq2 gl1 (x5.toNat :: a0.toNat :: H), .obj (gP46 a0.toNat) [(gv (gq2 a0.toNat) 0), (gv (gq2 a0.toNat) 1), (gv (gq2 a0.toNat) 2)] 46, .sl (gv (gq2 a0.toNat) 1) 9 1 (u6.texts_.map SR), .sl (gv (gq2 a0.toNat) 2) 42 1 (u6.kids_.map (PR gP46))]] (Cls w F [.obj (gP46 x5.toNat) [(gv (gq2 x5.toNat) 0), (gv (gq2 x5.toNat) 1), (gv (gq2 x5.toNat) 2)] 46, .sl (gv (gq2 x5.toNat) 0) 3 1 (u8.keys_.map I), .sl (gv (gq2 x5.toNat) 1) 9 1 (u8.texts_.map SR), .sl (gv (gq2 x5.toNat) 2) 42 1 (u8.kids_.map (PR gP46)), ar46 gP46 gq2 gl1 (x5.toNat :: a0.toNat :: H), .obj (gP46 a0.toNat) [(gv (gq2 a0.toNat) 0), (gv (gq2 a0.toNat) 1), (gv (gq2 a0.toNat) 2)] 46, .sl (gv (gq2 a0.toNat) 2) 42 1 (u6.kids_.map (PR gP46))])) 23 (by kernel_rfl) (Sc.past rfl (Sc.stay (fun _ hw => hw) (Sc.stayD (fun _ hw => hw)))) (Sc.now (by kernel_rfl) (fun _ hw => hw.sel [0, 1, 2, 3, 4, 5, 7, 8] (by decide) rfl)) ?_)
   refine V2.zz [25] (Zc.at1 (fun _ hw => hw)) (fun hz33 => ?_)
   refine V2.m (i := 24) (V' := fun _ => el (gv (gq2 a0.toNat) 1) (a1.toNat * 1)) h (Nx2.of [25] (by kernel_rfl) rfl hz33) rfl rfl rfl (Y.indexM (g := SR) (l := u6.texts_) Try.underlying43 sz9 rfl rfl (fun w hw => As.at_ (hw.get (i := 6) rfl))) (fun x34 ex34 h => ?_)
   refine V2.eff (i := 25) (by kernel_rfl) rfl ?_
   refine L.storeSlM (q := 7) (row := SR) (vs := [st x27]) (j := 0) (u1 := x27) h sz9 rfl rfl rfl rfl rfl (all1 rfl all0) rfl ex34 rfl rfl ?_
   intro l35 el35 h
   refine L.nil (E.toV2 (stC [] [] (Cls w F [.obj (gP46 x5.toNat) [(gv (gq2 x5.toNat) 0), (gv (gq2 x5.toNat) 1), (gv (gq2 x5.toNat) 2)] 46, .sl (gv (gq2 x5.toNat) 0) 3 1 (u8.keys_.map I), .sl (gv (gq2 x5.toNat) 1) 9 1 (u8.texts_.map SR), .sl (gv (gq2 x5.toNat) 2) 42 1 (u8.kids_.map (PR gP46)), ar46 gP46 gq2 gl1 (x5.toNat :: a0.toNat :: H), .obj (gP46 a0.toNat) [(gv (gq2 a0.toNat) 0), (gv (gq2 a0.toNat) 1), (gv (gq2 a0.toNat) 2)] 46, .sl (gv (gq2 a0.toNat) 2) 42 1 (u6.kids_.map (PR gP46))])) 25 (by kernel_rfl) (Sc.past rfl (Sc.stayD (fun _ hw => hw))) (Sc.atD (fun _ hw => hw.sel [0, 1, 2, 3, 4, 5, 8] (by decide) rfl)) ?_)
   refine V2.done (by kernel_rfl) ?_
   refine E.thenN (W.seq (W.drawn2 (k := 18) (stC [[6, 11, 14], [11, 14], [14]] [Cls w F [.obj (gP46 x5.toNat) [(gv (gq2 x5.toNat) 0), (gv (gq2 x5.toNat) 1), (gv (gq2 x5.toNat) 2)] 46, .sl (gv (gq2 x5.toNat) 0) 3 1 (u8.keys_.map I), .sl (gv (gq2 x5.toNat) 1) 9 1 (u8.texts_.map SR), .sl (gv (gq2 x5.toNat) 2) 42 1 (u8.kids_.map (PR gP46)), ar46 gP46 gq2 gl1 (x5.toNat :: a0.toNat :: H), .obj (gP46 a0.toNat) [(gv (gq2 a0.toNat) 0), (gv (gq2 a0.toNat) 1), (gv (gq2 a0.toNat) 2)] 46, .sl (gv (gq2 a0.toNat) 0) 3 1 (l31.map I), .sl (gv (gq2 a0.toNat) 1) 9 1 (l35.map SR), .sl (gv (gq2 a0.toNat) 2) 42 1 (u6.kids_.map (PR gP46))], Cls w F [.obj (gP46 x5.toNat) [(gv (gq2 x5.toNat) 0), (gv (gq2 x5.toNat) 1), (gv (gq2 x5.toNat) 2)] 46, .sl (gv (gq2 x5.toNat) 1) 9 1 (u8.texts_.map SR), .sl (gv (gq2 x5.toNat) 2) 42 1 (u8.kids_.map (PR gP46)), ar46 gP46 gq2 gl1 (x5.toNat :: a0.toNat :: H), .obj (gP46 a0.toNat) [(gv (gq2 a0.toNat) 0), (gv (gq2 a0.toNat) 1), (gv (gq2 a0.toNat) 2)] 46, .sl (gv (gq2 a0.toNat) 0) 3 1 (l31.map I), .sl (gv (gq2 a0.toNat) 1) 9 1 (l35.map SR), .sl (gv (gq2 a0.toNat) 2) 42 1 (u6.kids_.map (PR gP46))], Cls w F [.obj (gP46 x5.toNat) [(gv (gq2 x5.toNat) 0), (gv (gq2 x5.toNat) 1), (gv (gq2 x5.toNat) 2)] 46, .sl (gv (gq2 x5.toNat) 2) 42 1 (u8.kids_.map (PR gP46)), ar46 gP46 gq2 gl1 (x5.toNat :: a0.toNat :: H), .obj (gP46 a0.toNat) [(gv (gq2 a0.toNat) 0), (gv (gq2 a0.toNat) 1), (gv (gq2 a0.toNat) 2)] 46, .sl (gv (gq2 a0.toNat) 0) 3 1 (l31.map I), .sl (gv (gq2 a0.toNat) 1) 9 1 (l35.map SR), .sl (gv (gq2 a0.toNat) 2) 42 1 (u6.kids_.map (PR gP46))]] (Cls w F [.sl (gv (gq2 x5.toNat) 2) 42 1 (u8.kids_.map (PR gP46)), ar46 gP46 gq2 gl1 (x5.toNat :: a0.toNat :: H), .obj (gP46 a0.toNat) [(gv (gq2 a0.toNat) 0), (gv (gq2 a0.toNat) 1), (gv (gq2 a0.toNat) 2)] 46, .sl (gv (gq2 a0.toNat) 0) 3 1 (l31.map I), .sl (gv (gq2 a0.toNat) 1) 9 1 (l35.map SR), .sl (gv (gq2 a0.toNat) 2) 42 1 (u6.kids_.map (PR gP46))])) rfl mixed (fun _ hw => hw.drew) (Sc.now (by kernel_rfl) (fun _ hw => hw)) ?_))
   refine V2.zz [] (Zc.on' (Zc.on' (Zc.on' (Zc.fin (fun _ hw => hw)) (fun _ hw => hw.sel [1, 2, 3, 4, 5, 6] (by decide) rfl)) (fun _ hw => hw.sel [2, 3, 4, 5, 6, 7] (by decide) rfl)) (fun _ hw => hw.sel [3, 4, 5, 6, 7, 8] (by decide) rfl)) (fun hz50 => ?_)
   refine V2.y (i := 0) (Nx2.of [] (by kernel_rfl) rfl hz50) rfl rfl rfl (Y.move rfl) ?_
   refine V2.y (i := 1) (Nx2.of [] (by kernel_rfl) rfl hz50) rfl rfl rfl (Y.move rfl) ?_
   refine V2.y (i := 2) (Nx2.of [] (by kernel_rfl) rfl hz50) rfl rfl rfl (Y.move rfl) ?_
   refine V2.apNil (i := 3) (Nx2.of [] (by kernel_rfl) rfl hz50) rfl rfl rfl eu8 ?_
   refine V2.y (i := 4) (Nx2.of [] (by kernel_rfl) rfl hz50) rfl rfl rfl (Y.fieldP fd46_0 rfl) ?_
   refine V2.zz [14] (Zc.on' (Zc.on' (Zc.at1 (fun _ hw => hw)) (fun _ hw => hw.sel [0, 2, 3, 4, 5, 6, 7] (by decide) rfl)) (fun _ hw => hw.sel [0, 3, 4, 5, 6, 7, 8] (by decide) rfl)) (fun hz51 => ?_)
   refine V2.y (i := 5) (Nx2.of [14] (by kernel_rfl) rfl hz51) rfl rfl rfl (Y.loadP (i := 0) ag25 rfl rfl rfl) ?_
   refine V2.y (i := 7) (Nx2.of [] (by kernel_rfl) rfl hz50) rfl rfl rfl (Y.move rfl) ?_
   refine V2.apNil (i := 8) (Nx2.of [] (by kernel_rfl) rfl hz50) rfl rfl rfl eu8 ?_
   refine V2.y (i := 9) (Nx2.of [] (by kernel_rfl) rfl hz50) rfl rfl rfl (Y.fieldP fd46_1 rfl) ?_
   refine V2.y (i := 10) (Nx2.of [14] (by kernel_rfl) rfl hz51) rfl rfl rfl (Y.loadP (i := 0) ag43 rfl rfl rfl) ?_
   refine V2.eff (i := 6) (by kernel_rfl) rfl ?_
   refine L.delRD (i := 1) (l := u8.keys_) (a := 0) (b := 1) h wDelR8 rfl en8 rfl rfl rfl rfl ?_
   intro v53 l52 el52 h
   refine L.nil (E.toV2 (stC [[11, 14], [14]] [Cls w F [.obj (gP46 x5.toNat) [(gv (gq2 x5.toNat) 0), (gv (gq2 x5.toNat) 1), (gv (gq2 x5.toNat) 2)] 46, .sl v53 3 1 (l52.map I), .sl (gv (gq2 x5.toNat) 1) 9 1 (u8.texts_.map SR), .sl (gv (gq2 x5.toNat) 2) 42 1 (u8.kids_.map (PR gP46)), ar46 gP46 gq2 gl1 (x5.toNat :: a0.toNat :: H), .obj (gP46 a0.toNat) [(gv (gq2 a0.toNat) 0), (gv (gq2 a0.toNat) 1), (gv (gq2 a0.toNat) 2)] 46, .sl (gv (gq2 a0.toNat) 0) 3 1 (l31.map I), .sl (gv (gq2 a0.toNat) 1) 9 1 (l35.map SR), .sl (gv (gq2 a0.toNat) 2) 42 1 (u6.kids_.map (PR gP46))], Cls w F [.obj (gP46 x5.toNat) [(gv (gq2 x5.toNat) 0), (gv (gq2 x5.toNat) 1), (gv (gq2 x5.toNat) 2)] 46, .sl v53 3 1 (l52.map I), .sl (gv (gq2 x5.toNat) 2) 42 1 (u8.kids_.map (PR gP46)), ar46 gP46 gq2 gl1 (x5.toNat :: a0.toNat :: H), .obj (gP46 a0.toNat) [(gv (gq2 a0.toNat) 0), (gv (gq2 a0.toNat) 1), (gv (gq2 a0.toNat) 2)] 46, .sl (gv (gq2 a0.toNat) 0) 3 1 (l31.map I), .sl (gv (gq2 a0.toNat) 1) 9 1 (l35.map SR), .sl (gv (gq2 a0.toNat) 2) 42 1 (u6.kids_.map (PR gP46))]] (Cls w F [.sl v53 3 1 (l52.map I), .sl (gv (gq2 x5.toNat) 2) 42 1 (u8.kids_.map (PR gP46)), ar46 gP46 gq2 gl1 (x5.toNat :: a0.toNat :: H), .obj (gP46 a0.toNat) [(gv (gq2 a0.toNat) 0), (gv (gq2 a0.toNat) 1), (gv (gq2 a0.toNat) 2)] 46, .sl (gv (gq2 a0.toNat) 0) 3 1 (l31.map I), .sl (gv (gq2 a0.toNat) 1) 9 1 (l35.map SR), .sl (gv (gq2 a0.toNat) 2) 42 1 (u6.kids_.map (PR gP46))])) 6 (by kernel_rfl) (Sc.past rfl (Sc.stay (fun _ hw => hw.sel [0, 2, 3, 4, 5, 6, 7, 8] (by decide) rfl) (Sc.stay (fun _ hw => hw.sel [0, 2, 3, 4, 5, 6, 7] (by decide) rfl) (Sc.stayD (fun _ hw => hw.sel [1, 2, 3, 4, 5, 6] (by decide) rfl))))) (Sc.now (by kernel_rfl) (fun _ hw => hw)) ?_)
   refine V2.eff (i := 11) (by kernel_rfl) rfl ?_
   refine L.delRD (i := 2) (l := u8.texts_) (a := 0) (b := 1) h wDelR25 rfl en25 rfl rfl rfl rfl ?_
   intro v55 l54 el54 h
   refine L.nil (E.toV2 (stC [[14]] [Cls w F [.obj (gP46 x5.toNat) [(gv (gq2 x5.toNat) 0), (gv (gq2 x5.toNat) 1), (gv (gq2 x5.toNat) 2)] 46, .sl v53 3 1 (l52.map I), .sl v55 9 1 (l54.map SR), .sl (gv (gq2 x5.toNat) 2) 42 1 (u8.kids_.map (PR gP46)), ar46 gP46 gq2 gl1 (x5.toNat :: a0.toNat :: H), .obj (gP46 a0.toNat) [(gv (gq2 a0.toNat) 0), (gv (gq2 a0.toNat) 1), (gv (gq2 a0.toNat) 2)] 46, .sl (gv (gq2 a0.toNat) 0) 3 1 (l31.map I), .sl (gv (gq2 a0.toNat) 1) 9 1 (l35.map SR), .sl (gv (gq2 a0.toNat) 2) 42 1 (u6.kids_.map (PR gP46))]] (Cls w F [.sl v53 3 1 (l52.map I), .sl v55 9 1 (l54.map SR), .sl (gv (gq2 x5.toNat) 2) 42 1 (u8.kids_.map (PR gP46)), ar46 gP46 gq2 gl1 (x5.toNat :: a0.toNat :: H), .obj (gP46 a0.toNat) [(gv (gq2 a0.toNat) 0), (gv (gq2 a0.toNat) 1), (gv (gq2 a0.toNat) 2)] 46, .sl (gv (gq2 a0.toNat) 0) 3 1 (l31.map I), .sl (gv (gq2 a0.toNat) 1) 9 1 (l35.map SR), .sl (gv (gq2 a0.toNat) 2) 42 1 (u6.kids_.map (PR gP46))])) 11 (by kernel_rfl) (Sc.past rfl (Sc.stay (fun _ hw => hw.sel [0, 1, 3, 4, 5, 6, 7, 8] (by decide) rfl) (Sc.stayD (fun _ hw => hw.sel [0, 2, 3, 4, 5, 6, 7] (by decide) rfl)))) (Sc.now (by kernel_rfl) (fun _ hw => hw)) ?_)
   refine V2.zz [] (Zc.on' (Zc.fin (fun _ hw => hw)) (fun _ hw => hw.sel [1, 2, 3, 4, 5, 6, 7, 8] (by decide) rfl)) (fun hz56 => ?_)
   refine V2.apNil (i := 12) (Nx2.of [] (by kernel_rfl) rfl hz56) rfl rfl rfl eu8 ?_
   refine V2.y (i := 13) (Nx2.of [] (by kernel_rfl) rfl hz56) rfl rfl rfl (Y.fieldP fd46_0 rfl) ?_
   refine V2.eff (i := 14) (by kernel_rfl) rfl ?_
   refine L.storeV (i := 0) sz25 rfl rfl (fun _ hw => (As.at_ (hw.get (i := 1) rfl)).one) rfl (Nat.le_of_ble_eq_true rfl) ?_
   refine L.nil (E.toV2 (stC [] [] (Cls w F [.sl v53 3 1 (l52.map I), .sl v55 9 1 (l54.map SR), .sl (gv (gq2 x5.toNat) 2) 42 1 (u8.kids_.map (PR gP46)), ar46 gP46 gq2 gl1 (x5.toNat :: a0.toNat :: H), .obj (gP46 a0.toNat) [(gv (gq2 a0.toNat) 0), (gv (gq2 a0.toNat) 1), (gv (gq2 a0.toNat) 2)] 46, .sl (gv (gq2 a0.toNat) 0) 3 1 (l31.map I), .sl (gv (gq2 a0.toNat) 1) 9 1 (l35.map SR), .sl (gv (gq2 a0.toNat) 2) 42 1 (u6.kids_.map (PR gP46))])) 14 (by kernel_rfl) (Sc.past rfl (Sc.stayD (fun _ hw => hw))) (Sc.atD (fun _ hw => hw.sel [1, 2, 3, 4, 5, 6, 7, 8] (by decide) rfl)) ?_)
   refine V2.zz [] (Zc.fin (fun _ hw => hw)) (fun hz57 => ?_)
   refine V2.apNil (i := 15) (Nx2.of [] (by kernel_rfl) rfl hz57) rfl rfl rfl eu8 ?_
   refine V2.y (i := 16) (Nx2.of [] (by kernel_rfl) rfl hz57) rfl rfl rfl (Y.fieldP fd46_1 rfl) ?_
   refine V2.eff (i := 17) (by kernel_rfl) rfl ?_
   refine L.storeV (i := 0) sz43 rfl rfl (fun _ hw => (As.at_ (hw.get (i := 2) rfl)).one) rfl (Nat.le_of_ble_eq_true rfl) ?_
   refine L.nil (E.toV2 (stC [] [] (Cls w F [.sl v53 3 1 (l52.map I), .sl v55 9 1 (l54.map SR), .sl (gv (gq2 x5.toNat) 2) 42 1 (u8.kids_.map (PR gP46)), ar46 gP46 gq2 gl1 (x5.toNat :: a0.toNat :: H), .obj (gP46 a0.toNat) [(gv (gq2 a0.toNat) 0), (gv (gq2 a0.toNat) 1), (gv (gq2 a0.toNat) 2)] 46, .sl (gv (gq2 a0.toNat) 0) 3 1 (l31.map I), .sl (gv (gq2 a0.toNat) 1) 9 1 (l35.map SR), .sl (gv (gq2 a0.toNat) 2) 42 1 (u6.kids_.map (PR gP46))])) 17 (by kernel_rfl) (Sc.stayD (fun _ hw => hw)) (Sc.atD (fun _ hw => hw.sel [1, 2, 3, 4, 5, 6, 7, 8] (by decide) rfl)) ?_)
   refine V2.done (by kernel_rfl) ?_
   refine E.thenN (W.seq (W.region (L.y rfl (Y.move rfl) ?_)))
   refine L.y rfl (Y.apNil rfl eu8) ?_
   refine L.y rfl (Y.fieldP fd46_2 rfl) ?_
   refine L.y rfl (Y.loadP (i := 0) ag44 rfl rfl rfl) ?_
   refine L.y rfl (Y.lenM (g := (PR gP46)) (l := u8.kids_) Try.underlying44 rfl (fun w hw => As.at_ (hw.get (i := 3) rfl))) ?_
   refine L.ite h rfl (Y.gtr rfl rfl) (fun c58 h => ?_) (fun c58 h => ?_)
   ·
    refine L.nil (E.thenN (W.condT rfl ?_))
    refine W.seq ?_
    obtain ⟨_, c59, h⟩ := bind1S h
    obtain ⟨l60, el60, h⟩ := bind1S h
    refine W.arClose (row := Tnode.rowA gP46) (sub := Tnode.subA gP46) (e := 46) (g := gP46) (gh := gq2) (vs' := [(gv (gq2 a0.toNat) 0), (gv (gq2 a0.toNat) 1), (gv (gq2 a0.toNat) 2)]) (hs := (x5.toNat :: H)) (hs' := (x5.toNat :: a0.toNat :: H)) (m' := [.obj (gP46 x5.toNat) [v53, v55, (gv (gq2 x5.toNat) 2)] 46, .sl v53 3 1 (l52.map I), .sl v55 9 1 (l54.map SR), .sl (gv (gq2 x5.toNat) 2) 42 1 (u8.kids_.map (PR gP46))]) [5, 6, 7, 8, 4, 0, 1, 2, 3] el60 (by decide) rfl (fun _ => by simp [or_comm, or_left_comm]) (nin1 (ck_some c10).symm eu6 eu8 (ck_some c59)) ?_
    intro q61
    have e62 := idx_upd_ne el60 (ck_some c10) eu8
    refine W.to (D := Cls w F [ar46 gP46 q61 l60 (x5.toNat :: H), .obj (gP46 x5.toNat) [v53, v55, (gv (gq2 x5.toNat) 2)] 46, .sl v53 3 1 (l52.map I), .sl v55 9 1 (l54.map SR), .sl (gv (gq2 x5.toNat) 2) 42 1 (u8.kids_.map (PR gP46))]) (fun _ hw => hw) ?_
    obtain ⟨u63, eu63, h⟩ := bind1S h
    obtain ⟨_, c64, h⟩ := bind1S h
    obtain ⟨_, c65, h⟩ := bind1S h
    refine W.to (D := Cls w F [.obj (gP46 x3.toNat) [(gv (q61 x3.toNat) 0), (gv (q61 x3.toNat) 1), (gv (q61 x3.toNat) 2)] 46, .sl (gv (q61 x3.toNat) 0) 3 1 (u63.keys_.map I), .sl (gv (q61 x3.toNat) 1) 9 1 (u63.texts_.map SR), .sl (gv (q61 x3.toNat) 2) 42 1 (u63.kids_.map (PR gP46)), ar46 gP46 q61 l60 (x3.toNat :: x5.toNat :: H), .obj (gP46 x5.toNat) [v53, v55, (gv (gq2 x5.toNat) 2)] 46, .sl v53 3 1 (l52.map I), .sl v55 9 1 (l54.map SR), .sl (gv (gq2 x5.toNat) 2) 42 1 (u8.kids_.map (PR gP46))]) (fun _ hw => hw.arOpen (p := 0) rfl eu63 (nin1 (ck_some c65) eu63 e62 (ck_some c64))) ?_
    refine W.drawn2 (k := 16) (stC [[12, 15], [15]] [Cls w F [.obj (gP46 x3.toNat) [(gv (q61 x3.toNat) 0), (gv (q61 x3.toNat) 1), (gv (q61 x3.toNat) 2)] 46, .sl (gv (q61 x3.toNat) 0) 3 1 (u63.keys_.map I), .sl (gv (q61 x3.toNat) 1) 9 1 (u63.texts_.map SR), .sl (gv (q61 x3.toNat) 2) 42 1 (u63.kids_.map (PR gP46)), ar46 gP46 q61 l60 (x3.toNat :: x5.toNat :: H), .obj (gP46 x5.toNat) [v53, v55, (gv (gq2 x5.toNat) 2)] 46, .sl v53 3 1 (l52.map I), .sl v55 9 1 (l54.map SR), .sl (gv (gq2 x5.toNat) 2) 42 1 (u8.kids_.map (PR gP46))], Cls w F [.obj (gP46 x3.toNat) [(gv (q61 x3.toNat) 0), (gv (q61 x3.toNat) 1), (gv (q61 x3.toNat) 2)] 46, .sl (gv (q61 x3.toNat) 0) 3 1 (u63.keys_.map I), .sl (gv (q61 x3.toNat) 1) 9 1 (u63.texts_.map SR), ar46 gP46 q61 l60 (x3.toNat :: x5.toNat :: H), .obj (gP46 x5.toNat) [v53, v55, (gv (gq2 x5.toNat) 2)] 46, .sl v53 3 1 (l52.map I), .sl v55 9 1 (l54.map SR), .sl (gv (gq2 x5.toNat) 2) 42 1 (u8.kids_.map (PR gP46))]] (Cls w F [.sl (gv (q61 x3.toNat) 0) 3 1 (u63.keys_.map I), .sl (gv (q61 x3.toNat) 1) 9 1 (u63.texts_.map SR), ar46 gP46 q61 l60 (x3.toNat :: x5.toNat :: H), .obj (gP46 x5.toNat) [v53, v55, (gv (gq2 x5.toNat) 2)] 46, .sl v53 3 1 (l52.map I), .sl v55 9 1 (l54.map SR), .sl (gv (gq2 x5.toNat) 2) 42 1 (u8.kids_.map (PR gP46))])) rfl mixed (fun _ hw => hw.drew) (Sc.now (by kernel_rfl) (fun _ hw => hw)) ?_
    refine V2.zz [] (Zc.on' (Zc.on' (Zc.fin (fun _ hw => hw)) (fun _ hw => hw.sel [1, 2, 3, 4, 5, 6, 7] (by decide) rfl)) (fun _ hw => hw.sel [1, 2, 4, 5, 6, 7, 8] (by decide) rfl)) (fun hz77 => ?_)
    refine V2.y (i := 0) (Nx2.of [] (by kernel_rfl) rfl hz77) rfl rfl rfl (Y.move rfl) ?_
    refine V2.y (i := 1) (Nx2.of [] (by kernel_rfl) rfl hz77) rfl rfl rfl (Y.move rfl) ?_
    refine V2.apNil (i := 2) (Nx2.of [] (by kernel_rfl) rfl hz77) rfl rfl rfl eu63 ?_
    refine V2.y (i := 3) (Nx2.of [] (by kernel_rfl) rfl hz77) rfl rfl rfl (Y.fieldP fd46_2 rfl) ?_
    refine V2.zz [15] (Zc.on' (Zc.at1 (fun _ hw => hw)) (fun _ hw => hw.sel [0, 1, 2, 4, 5, 6, 7, 8] (by decide) rfl)) (fun hz78 => ?_)
    refine V2.y (i := 4) (Nx2.of [15] (by kernel_rfl) rfl hz78) rfl rfl rfl (Y.loadP (i := 0) ag44 rfl rfl rfl) ?_
    refine V2.y (i := 5) (Nx2.of [] (by kernel_rfl) rfl hz77) rfl rfl rfl (Y.move rfl) ?_
    refine V2.apNil (i := 6) (Nx2.of [] (by kernel_rfl) rfl hz77) rfl rfl rfl e62 ?_
    refine V2.y (i := 7) (Nx2.of [] (by kernel_rfl) rfl hz77) rfl rfl rfl (Y.fieldP fd46_2 rfl) ?_
    refine V2.y (i := 8) (Nx2.of [] (by kernel_rfl) rfl hz77) rfl rfl rfl (Y.loadP (i := 3) ag44 rfl rfl rfl) ?_
    refine V2.m (i := 9) (V' := fun _ => el (gv (gq2 x5.toNat) 2) ((0 : Int).toNat * 1)) h (Nx2.of [] (by kernel_rfl) rfl hz77) rfl rfl rfl (Y.indexM (g := (PR gP46)) (l := u8.kids_) Try.underlying44 sz42 rfl rfl (fun w hw => As.at_ (hw.get (i := 6) rfl))) (fun x79 ex79 h => ?_)
    refine V2.y (i := 10) (Nx2.of [] (by kernel_rfl) rfl hz77) rfl rfl rfl (Y.loadE1 (u := VP gP46 x79) ag42 rfl (fun w hw => As.at_ (hw.get (i := 6) rfl)) (idx_map ex79)) ?_
    refine V2.eff (i := 11) (by kernel_rfl) rfl ?_
    refine L.litOne rfl Try.underlying44 eL42 rfl (VP_cells _ _) ?_
    intro b80
    refine L.nil (E.toV2 (stC [[12, 15], [15]] [Cls w F [.sl (sv b80 1) 42 1 (([x79]).map (PR gP46)), .obj (gP46 x3.toNat) [(gv (q61 x3.toNat) 0), (gv (q61 x3.toNat) 1), (gv (q61 x3.toNat) 2)] 46, .sl (gv (q61 x3.toNat) 0) 3 1 (u63.keys_.map I), .sl (gv (q61 x3.toNat) 1) 9 1 (u63.texts_.map SR), .sl (gv (q61 x3.toNat) 2) 42 1 (u63.kids_.map (PR gP46)), ar46 gP46 q61 l60 (x3.toNat :: x5.toNat :: H), .obj (gP46 x5.toNat) [v53, v55, (gv (gq2 x5.toNat) 2)] 46, .sl v53 3 1 (l52.map I), .sl v55 9 1 (l54.map SR), .sl (gv (gq2 x5.toNat) 2) 42 1 (u8.kids_.map (PR gP46))], Cls w F [.sl (sv b80 1) 42 1 (([x79]).map (PR gP46)), .obj (gP46 x3.toNat) [(gv (q61 x3.toNat) 0), (gv (q61 x3.toNat) 1), (gv (q61 x3.toNat) 2)] 46, .sl (gv (q61 x3.toNat) 0) 3 1 (u63.keys_.map I), .sl (gv (q61 x3.toNat) 1) 9 1 (u63.texts_.map SR), ar46 gP46 q61 l60 (x3.toNat :: x5.toNat :: H), .obj (gP46 x5.toNat) [v53, v55, (gv (gq2 x5.toNat) 2)] 46, .sl v53 3 1 (l52.map I), .sl v55 9 1 (l54.map SR), .sl (gv (gq2 x5.toNat) 2) 42 1 (u8.kids_.map (PR gP46))]] (Cls w F [.sl (sv b80 1) 42 1 (([x79]).map (PR gP46)), .sl (gv (q61 x3.toNat) 0) 3 1 (u63.keys_.map I), .sl (gv (q61 x3.toNat) 1) 9 1 (u63.texts_.map SR), ar46 gP46 q61 l60 (x3.toNat :: x5.toNat :: H), .obj (gP46 x5.toNat) [v53, v55, (gv (gq2 x5.toNat) 2)] 46, .sl v53 3 1 (l52.map I), .sl v55 9 1 (l54.map SR), .sl (gv (gq2 x5.toNat) 2) 42 1 (u8.kids_.map (PR gP46))])) 11 (by kernel_rfl) (Sc.stay (fun _ hw => hw.sel [1, 2, 3, 4, 5, 6, 7, 8, 9] (by decide) rfl) (Sc.stay (fun _ hw => hw.sel [1, 2, 3, 4, 5, 6, 7, 8] (by decide) rfl) (Sc.stayD (fun _ hw => hw.sel [1, 2, 3, 4, 5, 6, 7] (by decide) rfl)))) (Sc.now (by kernel_rfl) (fun _ hw => hw)) ?_)
    refine V2.eff (i := 12) (by kernel_rfl) rfl ?_
    refine L.appM (i := 4) (g := (PR gP46)) (l := u63.kids_) (more := [x79]) h rfl Try.underlying44 eL42 rfl rfl rfl (fun w hw => As.at_ (hw.get (i := 0) rfl)) (plain_P _) rfl ?_
    intro v81 l82 el82 h
    refine L.nil (E.toV2 (stC [[15]] [Cls w F [.sl v81 42 1 (l82.map (PR gP46)), .sl (sv b80 1) 42 1 (([x79]).map (PR gP46)), .obj (gP46 x3.toNat) [(gv (q61 x3.toNat) 0), (gv (q61 x3.toNat) 1), (gv (q61 x3.toNat) 2)] 46, .sl (gv (q61 x3.toNat) 0) 3 1 (u63.keys_.map I), .sl (gv (q61 x3.toNat) 1) 9 1 (u63.texts_.map SR), ar46 gP46 q61 l60 (x3.toNat :: x5.toNat :: H), .obj (gP46 x5.toNat) [v53, v55, (gv (gq2 x5.toNat) 2)] 46, .sl v53 3 1 (l52.map I), .sl v55 9 1 (l54.map SR), .sl (gv (gq2 x5.toNat) 2) 42 1 (u8.kids_.map (PR gP46))]] (Cls w F [.sl v81 42 1 (l82.map (PR gP46)), .sl (sv b80 1) 42 1 (([x79]).map (PR gP46)), .sl (gv (q61 x3.toNat) 0) 3 1 (u63.keys_.map I), .sl (gv (q61 x3.toNat) 1) 9 1 (u63.texts_.map SR), ar46 gP46 q61 l60 (x3.toNat :: x5.toNat :: H), .obj (gP46 x5.toNat) [v53, v55, (gv (gq2 x5.toNat) 2)] 46, .sl v53 3 1 (l52.map I), .sl v55 9 1 (l54.map SR), .sl (gv (gq2 x5.toNat) 2) 42 1 (u8.kids_.map (PR gP46))])) 12 (by kernel_rfl) (Sc.past rfl (Sc.stay (fun _ hw => hw.sel [1, 2, 3, 4, 5, 6, 7, 8, 9] (by decide) rfl) (Sc.stayD (fun _ hw => hw.sel [1, 2, 3, 4, 5, 6, 7, 8] (by decide) rfl)))) (Sc.now (by kernel_rfl) (fun _ hw => hw)) ?_)
    refine V2.zz [] (Zc.on' (Zc.fin (fun _ hw => hw)) (fun _ hw => hw.sel [0, 1, 3, 4, 5, 6, 7, 8, 9] (by decide) rfl)) (fun hz83 => ?_)
    refine V2.apNil (i := 13) (Nx2.of [] (by kernel_rfl) rfl hz83) rfl rfl rfl eu63 ?_
    refine V2.y (i := 14) (Nx2.of [] (by kernel_rfl) rfl hz83) rfl rfl rfl (Y.fieldP fd46_2 rfl) ?_
    refine V2.eff (i := 15) (by kernel_rfl) rfl ?_
    refine L.storeV (i := 2) sz44 rfl rfl (fun _ hw => (As.at_ (hw.get (i := 0) rfl)).one) rfl (Nat.le_of_ble_eq_true rfl) ?_
    refine L.nil (E.toV2 (stC [] [] (Cls w F [.sl v81 42 1 (l82.map (PR gP46)), .sl (sv b80 1) 42 1 (([x79]).map (PR gP46)), .sl (gv (q61 x3.toNat) 0) 3 1 (u63.keys_.map I), .sl (gv (q61 x3.toNat) 1) 9 1 (u63.texts_.map SR), ar46 gP46 q61 l60 (x3.toNat :: x5.toNat :: H), .obj (gP46 x5.toNat) [v53, v55, (gv (gq2 x5.toNat) 2)] 46, .sl v53 3 1 (l52.map I), .sl v55 9 1 (l54.map SR), .sl (gv (gq2 x5.toNat) 2) 42 1 (u8.kids_.map (PR gP46))])) 15 (by kernel_rfl) (Sc.past rfl (Sc.stayD (fun _ hw => hw))) (Sc.atD (fun _ hw => hw.sel [0, 1, 3, 4, 5, 6, 7, 8, 9] (by decide) rfl)) ?_)
    refine V2.done (by kernel_rfl) ?_
    refine E.thenN (W.region (L.y rfl (Y.move rfl) ?_))
    refine L.y rfl (Y.move rfl) ?_
    refine L.y rfl (Y.apNil rfl e62) ?_
    refine L.y rfl (Y.fieldP fd46_2 rfl) ?_
    refine L.y rfl (Y.loadP (i := 6) ag44 rfl rfl rfl) ?_
    refine L.delRD (i := 9) (l := u8.kids_) (a := 0) (b := 1) h wDelR45 rfl en45 rfl rfl rfl rfl ?_
    intro v85 l84 el84 h
    refine L.y rfl (Y.apNil rfl e62) ?_
    refine L.y rfl (Y.fieldP fd46_2 rfl) ?_
    refine L.storeV (i := 6) sz44 rfl rfl (fun _ hw => (As.at_ (hw.get (i := 9) rfl)).one) rfl (Nat.le_of_ble_eq_true rfl) ?_
    refine L.nil ?_
    obtain ⟨_, c86, h⟩ := bind1S h
    obtain ⟨l87, el87, h⟩ := bind1S h
    refine E.arClose (row := Tnode.rowA gP46) (sub := Tnode.subA gP46) (e := 46) (g := gP46) (gh := q61) (vs' := [(gv (q61 x3.toNat) 0), (gv (q61 x3.toNat) 1), v81]) (hs := (x5.toNat :: H)) (hs' := (x3.toNat :: x5.toNat :: H)) (m' := [.sl (sv b80 1) 42 1 (([x79]).map (PR gP46)), .obj (gP46 x5.toNat) [v53, v55, v85] 46, .sl v53 3 1 (l52.map I), .sl v55 9 1 (l54.map SR), .sl v85 42 1 (l84.map (PR gP46))]) [2, 3, 4, 0, 5, 1, 6, 7, 8, 9] el87 (by decide) rfl (fun _ => List.mem_cons) (nin1 (ck_some c65) eu63 e62 (ck_some c86)) ?_
    intro q88
    have e89 := idx_upd_ne el87 (ck_some c65).symm e62
    refine E.to (D := Cls w F [ar46 gP46 q88 l87 (x5.toNat :: H), .sl (sv b80 1) 42 1 (([x79]).map (PR gP46)), .obj (gP46 x5.toNat) [v53, v55, v85] 46, .sl v53 3 1 (l52.map I), .sl v55 9 1 (l54.map SR), .sl v85 42 1 (l84.map (PR gP46))]) (fun _ hw => hw) ?_
    obtain ⟨_, c90, h⟩ := bind1S h
    obtain ⟨l91, el91, h⟩ := bind1S h
    refine E.arClose (row := Tnode.rowA gP46) (sub := Tnode.subA gP46) (e := 46) (g := gP46) (gh := q88) (vs' := [v53, v55, v85]) (hs := H) (hs' := (x5.toNat :: H)) (m' := [.sl (sv b80 1) 42 1 (([x79]).map (PR gP46))]) [2, 3, 4, 5, 0, 1] el91 (by decide) rfl (fun _ => List.mem_cons) (ck_some c90) ?_
    intro q92
    refine E.to (D := Cls w F [ar46 gP46 q92 l91 H, .sl (sv b80 1) 42 1 (([x79]).map (PR gP46))]) (fun _ hw => hw) ?_
    refine E.end0 rfl (fun w1 hw => ?_)
    obtain rfl := Option.some.inj h
    exact ⟨_, _, rfl, ⟨_, rfl, rfl⟩, hw.sel [0] (by decide) rfl⟩
   ·
    refine L.nil (E.thenN (W.condF rfl ?_))
    refine W.skip ?_
    obtain ⟨_, c93, h⟩ := bind1S h
    obtain ⟨l94, el94, h⟩ := bind1S h
    refine E.arClose (row := Tnode.rowA gP46) (sub := Tnode.subA gP46) (e := 46) (g := gP46) (gh := gq2) (vs' := [v53, v55, (gv (gq2 x5.toNat) 2)]) (hs := (a0.toNat :: H)) (hs' := (x5.toNat :: a0.toNat :: H)) (m' := [.obj (gP46 a0.toNat) [(gv (gq2 a0.toNat) 0), (gv (gq2 a0.toNat) 1), (gv (gq2 a0.toNat) 2)] 46, .sl (gv (gq2 a0.toNat) 0) 3 1 (l31.map I), .sl (gv (gq2 a0.toNat) 1) 9 1 (l35.map SR), .sl (gv (gq2 a0.toNat) 2) 42 1 (u6.kids_.map (PR gP46))]) [0, 1, 2, 3, 4, 5, 6, 7, 8] el94 (by decide) rfl (fun _ => List.mem_cons) (nin1 (ck_some c10) eu8 eu6 (ck_some c93)) ?_
    intro q95
    have e96 := idx_upd_ne el94 (ck_some c10).symm eu6
    refine E.to (D := Cls w F [ar46 gP46 q95 l94 (a0.toNat :: H), .obj (gP46 a0.toNat) [(gv (gq2 a0.toNat) 0), (gv (gq2 a0.toNat) 1), (gv (gq2 a0.toNat) 2)] 46, .sl (gv (gq2 a0.toNat) 0) 3 1 (l31.map I), .sl (gv (gq2 a0.toNat) 1) 9 1 (l35.map SR), .sl (gv (gq2 a0.toNat) 2) 42 1 (u6.kids_.map (PR gP46))]) (fun _ hw => hw) ?_
    obtain ⟨_, c97, h⟩ := bind1S h
    obtain ⟨l98, el98, h⟩ := bind1S h
    refine E.arClose (row := Tnode.rowA gP46) (sub := Tnode.subA gP46) (e := 46) (g := gP46) (gh := q95) (vs' := [(gv (gq2 a0.toNat) 0), (gv (gq2 a0.toNat) 1), (gv (gq2 a0.toNat) 2)]) (hs := H) (hs' := (a0.toNat :: H)) (m' := []) [1, 2, 3, 4, 0] el98 (by decide) rfl (fun _ => List.mem_cons) (ck_some c97) ?_
    intro q99
    refine E.to (D := Cls w F [ar46 gP46 q99 l98 H]) (fun _ hw => hw) ?_
    refine E.end0 rfl (fun w1 hw => ?_)
    obtain rfl := Option.some.inj h
    exact ⟨_, _, rfl, ⟨_, rfl, rfl⟩, hw⟩
end Go.Proofs.Ytdebhhjbgbkbjaa
