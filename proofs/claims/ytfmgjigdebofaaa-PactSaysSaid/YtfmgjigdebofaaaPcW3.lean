/-
  Walks, printed by a program of mine.
  Conditions: none.
-/
import Derived.Test.YtfmgjigdebofaaaPcW2
import Derived.Test.YtfmgjigdebofaaaChecked
import Derived.KernelRfl
namespace Go.Proofs.Ytfmgjigdebofaaa
open Go.S
set_option linter.unusedVariables false
set_option linter.unusedSimpArgs false
set_option maxRecDepth 100000 in
set_option maxHeartbeats 8000000 in
theorem w80_quirref_PactStep (a0 : TPact) (a1 : TBeat) (u0_0 : Value) (u0_1 : Value) (w : World) (r : TPact) (h : m80_quirref_PactStep a0 a1 = some r) (hA0_0 : At w u0_0 1 (a0.Votes.map I)) (hA0_1 : At w u0_1 1 (a0.Parts.map I)) : Does Try.prog 80 [.agg #[.int .i64 a0.Lead, u0_0, u0_1], .agg #[.int .i64 a1.Kind, .int .i64 a1.Who, .int .i64 a1.By]] w fun u m => ∃ v0 v1, u = .agg #[.int .i64 r.Lead, v0, v1] ∧ m = [.sl v0 3 1 (r.Votes.map I), .sl v1 3 1 (r.Parts.map I)] := by
  rw [m80_quirref_PactStep] at h
  refine body (n := 206) Try.func80 rfl rfl rfl (Cls.refl w) ?_
  refine W.seq ?_
  refine W.region ?_
  refine L.box rfl rfl ?_
  intro b1
  refine L.box rfl rfl ?_
  intro b2
  refine L.alloc rfl ze111 ?_
  intro b3
  refine L.nil ?_
  refine E.thenN ?_
  refine W.seqJ (fun gs D => ∃ (gv1 : Value) (gl2 : (List Int)) (gv3 : Value) (gl4 : (List Int)), gs = [(2, pt b1 0), (3, pt b2 0), (4, pt b3 0)] ∧ D = Cls w [] [.obj b3 [.int .i64 0, .slice none 0 0, .slice none 0 0] 111, .obj b2 [.int .i64 a1.Kind, .int .i64 a1.Who, .int .i64 a1.By] 113, .obj b1 [.int .i64 a0.Lead, gv1, gv3] 111, .sl gv1 3 1 (gl2.map I), .sl gv3 3 1 (gl4.map I)] ∧ m80_quirref_PactStep_K1 a1 a0 gl2 gl4 = some r) ?_ ?_
  ·
    refine W.drawn (k := 10) (D := Cls w [] [.obj b3 [.int .i64 0, .slice none 0 0, .slice none 0 0] 111, .obj b2 [.int .i64 a1.Kind, .int .i64 a1.Who, .int .i64 a1.By] 113]) rfl mixed (fun _ hw => hw.drew) (fun _ hw => hw.sel [0, 1] (by decide) rfl) ?_
    refine V.y (i := 0) (Nx.of (by kernel_rfl) rfl) rfl rfl rfl (Y.fieldP fd111_1 rfl) ?_
    refine V.y (i := 3) (Nx.of (by kernel_rfl) rfl) rfl rfl rfl (Y.fieldP fd111_2 rfl) ?_
    refine V.eff2 (i1 := 1) (i2 := 4) (by kernel_rfl) rfl rfl ?_ ?_
    ·
      refine L.y rfl (Y.loadP (i := 2) ag24 rfl rfl rfl) ?_
      refine L.nil ?_
      refine E.toV (D' := Cls w [] [.obj b3 [.int .i64 0, .slice none 0 0, .slice none 0 0] 111, .obj b2 [.int .i64 a1.Kind, .int .i64 a1.Who, .int .i64 a1.By] 113]) (fun _ hw => hw) (fun _ hw => hw.sel [0, 1] (by decide) rfl) ?_
      refine V.eff2 (i1 := 2) (i2 := 4) (by kernel_rfl) rfl rfl ?_ ?_
      ·
        obtain ⟨l122, e124, h⟩ := bind1S h
        refine L.does rfl en104 rfl (fun w' hw => w104_slices_Clone_int a0.Votes u0_0 w' _ e124 (hA0_0.cls0 hw)) ?_
        rintro v123 _ ⟨_, rfl, rfl⟩
        refine L.nil ?_
        refine E.toV (D' := Cls w [] [.sl v123 3 1 (l122.map I), .obj b3 [.int .i64 0, .slice none 0 0, .slice none 0 0] 111, .obj b2 [.int .i64 a1.Kind, .int .i64 a1.Who, .int .i64 a1.By] 113]) (fun _ hw => hw.sel [1, 2] (by decide) rfl) (fun _ hw => hw.sel [0, 1, 2] (by decide) rfl) ?_
        refine V.eff (i := 4) (by kernel_rfl) rfl ?_
        refine L.y rfl (Y.loadP (i := 3) ag24 rfl rfl rfl) ?_
        refine L.nil ?_
        refine E.toV (D' := Cls w [] [.sl v123 3 1 (l122.map I), .obj b3 [.int .i64 0, .slice none 0 0, .slice none 0 0] 111, .obj b2 [.int .i64 a1.Kind, .int .i64 a1.Who, .int .i64 a1.By] 113]) (fun _ hw => hw) (fun _ hw => hw.sel [0, 1, 2] (by decide) rfl) ?_
        refine V.y (i := 6) (Nx.of (by kernel_rfl) rfl) rfl rfl rfl (Y.fieldP fd111_1 rfl) ?_
        refine V.eff (i := 5) (by kernel_rfl) rfl ?_
        obtain ⟨l125, e127, h⟩ := bind1S h
        refine L.does rfl en104 rfl (fun w' hw => w104_slices_Clone_int a0.Parts u0_1 w' _ e127 (hA0_1.cls0 hw)) ?_
        rintro v126 _ ⟨_, rfl, rfl⟩
        refine L.nil ?_
        refine E.toV (D' := Cls w [] [.sl v126 3 1 (l125.map I), .sl v123 3 1 (l122.map I), .obj b3 [.int .i64 0, .slice none 0 0, .slice none 0 0] 111, .obj b2 [.int .i64 a1.Kind, .int .i64 a1.Who, .int .i64 a1.By] 113]) (fun _ hw => hw.sel [1, 2, 3] (by decide) rfl) (fun _ hw => hw.sel [0, 1, 2, 3] (by decide) rfl) ?_
        refine V.eff (i := 7) (by kernel_rfl) rfl ?_
        refine L.storeV (i := 4) sz24 rfl rfl (fun _ hw => (As.at_ (hw.get (i := 1) rfl)).one) rfl (Nat.le_of_ble_eq_true rfl) ?_
        refine L.nil ?_
        refine E.toV (D' := Cls w [] [.sl v126 3 1 (l125.map I), .sl v123 3 1 (l122.map I), .obj b3 [.int .i64 0, .slice none 0 0, .slice none 0 0] 111, .obj b2 [.int .i64 a1.Kind, .int .i64 a1.Who, .int .i64 a1.By] 113]) (fun _ hw => hw) (fun _ hw => hw.sel [0, 1, 2, 3] (by decide) rfl) ?_
        refine V.y (i := 8) (Nx.of (by kernel_rfl) rfl) rfl rfl rfl (Y.fieldP fd111_2 rfl) ?_
        refine V.eff (i := 9) (by kernel_rfl) rfl ?_
        refine L.storeV (i := 4) sz24 rfl rfl (fun _ hw => (As.at_ (hw.get (i := 0) rfl)).one) rfl (Nat.le_of_ble_eq_true rfl) ?_
        refine L.nil ?_
        refine E.toV (D' := Cls w [] [.sl v126 3 1 (l125.map I), .sl v123 3 1 (l122.map I), .obj b3 [.int .i64 0, .slice none 0 0, .slice none 0 0] 111, .obj b2 [.int .i64 a1.Kind, .int .i64 a1.Who, .int .i64 a1.By] 113]) (fun _ hw => hw) (fun _ hw => hw.sel [0, 1, 2, 3] (by decide) rfl) ?_
        refine V.done (by kernel_rfl) ?_
        exact E.joinJ ⟨v123, l122, v126, l125, rfl, rfl, h⟩ ⟨rfl, rfl, rfl, trivial⟩ (fun _ hw => hw.sel [2, 3, 4, 1, 0] (by decide) rfl)
      ·
        refine L.y rfl (Y.loadP (i := 2) ag24 rfl rfl rfl) ?_
        refine L.nil ?_
        refine E.toV (D' := Cls w [] [.obj b3 [.int .i64 0, .slice none 0 0, .slice none 0 0] 111, .obj b2 [.int .i64 a1.Kind, .int .i64 a1.Who, .int .i64 a1.By] 113]) (fun _ hw => hw) (fun _ hw => hw.sel [0, 1] (by decide) rfl) ?_
        refine V.eff (i := 2) (by kernel_rfl) rfl ?_
        obtain ⟨l128, e130, h⟩ := bind1S h
        refine L.does rfl en104 rfl (fun w' hw => w104_slices_Clone_int a0.Votes u0_0 w' _ e130 (hA0_0.cls0 hw)) ?_
        rintro v129 _ ⟨_, rfl, rfl⟩
        refine L.nil ?_
        refine E.toV (D' := Cls w [] [.sl v129 3 1 (l128.map I), .obj b3 [.int .i64 0, .slice none 0 0, .slice none 0 0] 111, .obj b2 [.int .i64 a1.Kind, .int .i64 a1.Who, .int .i64 a1.By] 113]) (fun _ hw => hw.sel [1, 2] (by decide) rfl) (fun _ hw => hw.sel [0, 1, 2] (by decide) rfl) ?_
        refine V.y (i := 6) (Nx.of (by kernel_rfl) rfl) rfl rfl rfl (Y.fieldP fd111_1 rfl) ?_
        refine V.eff (i := 5) (by kernel_rfl) rfl ?_
        obtain ⟨l131, e133, h⟩ := bind1S h
        refine L.does rfl en104 rfl (fun w' hw => w104_slices_Clone_int a0.Parts u0_1 w' _ e133 (hA0_1.cls0 hw)) ?_
        rintro v132 _ ⟨_, rfl, rfl⟩
        refine L.nil ?_
        refine E.toV (D' := Cls w [] [.sl v132 3 1 (l131.map I), .sl v129 3 1 (l128.map I), .obj b3 [.int .i64 0, .slice none 0 0, .slice none 0 0] 111, .obj b2 [.int .i64 a1.Kind, .int .i64 a1.Who, .int .i64 a1.By] 113]) (fun _ hw => hw.sel [1, 2, 3] (by decide) rfl) (fun _ hw => hw.sel [0, 1, 2, 3] (by decide) rfl) ?_
        refine V.eff (i := 7) (by kernel_rfl) rfl ?_
        refine L.storeV (i := 4) sz24 rfl rfl (fun _ hw => (As.at_ (hw.get (i := 1) rfl)).one) rfl (Nat.le_of_ble_eq_true rfl) ?_
        refine L.nil ?_
        refine E.toV (D' := Cls w [] [.sl v132 3 1 (l131.map I), .sl v129 3 1 (l128.map I), .obj b3 [.int .i64 0, .slice none 0 0, .slice none 0 0] 111, .obj b2 [.int .i64 a1.Kind, .int .i64 a1.Who, .int .i64 a1.By] 113]) (fun _ hw => hw) (fun _ hw => hw.sel [0, 1, 2, 3] (by decide) rfl) ?_
        refine V.y (i := 8) (Nx.of (by kernel_rfl) rfl) rfl rfl rfl (Y.fieldP fd111_2 rfl) ?_
        refine V.eff (i := 9) (by kernel_rfl) rfl ?_
        refine L.storeV (i := 4) sz24 rfl rfl (fun _ hw => (As.at_ (hw.get (i := 0) rfl)).one) rfl (Nat.le_of_ble_eq_true rfl) ?_
        refine L.nil ?_
        refine E.toV (D' := Cls w [] [.sl v132 3 1 (l131.map I), .sl v129 3 1 (l128.map I), .obj b3 [.int .i64 0, .slice none 0 0, .slice none 0 0] 111, .obj b2 [.int .i64 a1.Kind, .int .i64 a1.Who, .int .i64 a1.By] 113]) (fun _ hw => hw) (fun _ hw => hw.sel [0, 1, 2, 3] (by decide) rfl) ?_
        refine V.done (by kernel_rfl) ?_
        exact E.joinJ ⟨v129, l128, v132, l131, rfl, rfl, h⟩ ⟨rfl, rfl, rfl, trivial⟩ (fun _ hw => hw.sel [2, 3, 4, 1, 0] (by decide) rfl)
    ·
      refine L.y rfl (Y.loadP (i := 2) ag24 rfl rfl rfl) ?_
      refine L.nil ?_
      refine E.toV (D' := Cls w [] [.obj b3 [.int .i64 0, .slice none 0 0, .slice none 0 0] 111, .obj b2 [.int .i64 a1.Kind, .int .i64 a1.Who, .int .i64 a1.By] 113]) (fun _ hw => hw) (fun _ hw => hw.sel [0, 1] (by decide) rfl) ?_
      refine V.eff (i := 1) (by kernel_rfl) rfl ?_
      refine L.y rfl (Y.loadP (i := 2) ag24 rfl rfl rfl) ?_
      refine L.nil ?_
      refine E.toV (D' := Cls w [] [.obj b3 [.int .i64 0, .slice none 0 0, .slice none 0 0] 111, .obj b2 [.int .i64 a1.Kind, .int .i64 a1.Who, .int .i64 a1.By] 113]) (fun _ hw => hw) (fun _ hw => hw.sel [0, 1] (by decide) rfl) ?_
      refine V.eff (i := 2) (by kernel_rfl) rfl ?_
      obtain ⟨l134, e136, h⟩ := bind1S h
      refine L.does rfl en104 rfl (fun w' hw => w104_slices_Clone_int a0.Votes u0_0 w' _ e136 (hA0_0.cls0 hw)) ?_
      rintro v135 _ ⟨_, rfl, rfl⟩
      refine L.nil ?_
      refine E.toV (D' := Cls w [] [.sl v135 3 1 (l134.map I), .obj b3 [.int .i64 0, .slice none 0 0, .slice none 0 0] 111, .obj b2 [.int .i64 a1.Kind, .int .i64 a1.Who, .int .i64 a1.By] 113]) (fun _ hw => hw.sel [1, 2] (by decide) rfl) (fun _ hw => hw.sel [0, 1, 2] (by decide) rfl) ?_
      refine V.y (i := 6) (Nx.of (by kernel_rfl) rfl) rfl rfl rfl (Y.fieldP fd111_1 rfl) ?_
      refine V.eff (i := 5) (by kernel_rfl) rfl ?_
      obtain ⟨l137, e139, h⟩ := bind1S h
      refine L.does rfl en104 rfl (fun w' hw => w104_slices_Clone_int a0.Parts u0_1 w' _ e139 (hA0_1.cls0 hw)) ?_
      rintro v138 _ ⟨_, rfl, rfl⟩
      refine L.nil ?_
      refine E.toV (D' := Cls w [] [.sl v138 3 1 (l137.map I), .sl v135 3 1 (l134.map I), .obj b3 [.int .i64 0, .slice none 0 0, .slice none 0 0] 111, .obj b2 [.int .i64 a1.Kind, .int .i64 a1.Who, .int .i64 a1.By] 113]) (fun _ hw => hw.sel [1, 2, 3] (by decide) rfl) (fun _ hw => hw.sel [0, 1, 2, 3] (by decide) rfl) ?_
      refine V.eff (i := 7) (by kernel_rfl) rfl ?_
      refine L.storeV (i := 4) sz24 rfl rfl (fun _ hw => (As.at_ (hw.get (i := 1) rfl)).one) rfl (Nat.le_of_ble_eq_true rfl) ?_
      refine L.nil ?_
      refine E.toV (D' := Cls w [] [.sl v138 3 1 (l137.map I), .sl v135 3 1 (l134.map I), .obj b3 [.int .i64 0, .slice none 0 0, .slice none 0 0] 111, .obj b2 [.int .i64 a1.Kind, .int .i64 a1.Who, .int .i64 a1.By] 113]) (fun _ hw => hw) (fun _ hw => hw.sel [0, 1, 2, 3] (by decide) rfl) ?_
      refine V.y (i := 8) (Nx.of (by kernel_rfl) rfl) rfl rfl rfl (Y.fieldP fd111_2 rfl) ?_
      refine V.eff (i := 9) (by kernel_rfl) rfl ?_
      refine L.storeV (i := 4) sz24 rfl rfl (fun _ hw => (As.at_ (hw.get (i := 0) rfl)).one) rfl (Nat.le_of_ble_eq_true rfl) ?_
      refine L.nil ?_
      refine E.toV (D' := Cls w [] [.sl v138 3 1 (l137.map I), .sl v135 3 1 (l134.map I), .obj b3 [.int .i64 0, .slice none 0 0, .slice none 0 0] 111, .obj b2 [.int .i64 a1.Kind, .int .i64 a1.Who, .int .i64 a1.By] 113]) (fun _ hw => hw) (fun _ hw => hw.sel [0, 1, 2, 3] (by decide) rfl) ?_
      refine V.done (by kernel_rfl) ?_
      exact E.joinJ ⟨v135, l134, v138, l137, rfl, rfl, h⟩ ⟨rfl, rfl, rfl, trivial⟩ (fun _ hw => hw.sel [2, 3, 4, 1, 0] (by decide) rfl)
  ·
    rintro _ _ ⟨gv1, gl2, gv3, gl4, rfl, rfl, h⟩
    rw [m80_quirref_PactStep_K1] at h
    refine W.seq ?_
    refine W.quietC mixed (by kernel_rfl) (fun _ hw => hw.drew) (fun hC => ?_)
    refine U.y rfl (Y.fieldP fd111_2 rfl) ?_
    refine U.y rfl (Y.loadP (i := 2) ag24 rfl rfl rfl) ?_
    refine U.y rfl (Y.fieldP fd113_1 rfl) ?_
    refine U.y rfl (Y.loadP (i := 1) ag3 rfl rfl rfl) ?_
    refine U.m (V := fun _ => el gv3 (a1.Who.toNat * 1)) h rfl (Y.indexM (g := I) (l := gl4) Try.underlying24 sz3 rfl rfl (fun w hw => As.at_ (hw.get (i := 4) rfl))) (fun x4 ex4 h => ?_)
    refine U.y rfl (Y.fieldP fd111_2 rfl) ?_
    refine U.y rfl (Y.loadP (i := 2) ag24 rfl rfl rfl) ?_
    refine U.y rfl (Y.fieldP fd113_2 rfl) ?_
    refine U.y rfl (Y.loadP (i := 1) ag3 rfl rfl rfl) ?_
    refine U.m (V := fun _ => el gv3 (a1.By.toNat * 1)) h rfl (Y.indexM (g := I) (l := gl4) Try.underlying24 sz3 rfl rfl (fun w hw => As.at_ (hw.get (i := 4) rfl))) (fun x5 ex5 h => ?_)
    refine U.y rfl (Y.assign rfl) ?_
    refine U.y rfl (Y.assign rfl) ?_
    refine U.nil ?_
    refine E.thenN ?_
    refine W.seqJ (fun gs D => ∃ (gb5 : Bool), gs = [(2, pt b1 0), (3, pt b2 0), (4, pt b3 0), (5, el gv3 (a1.Who.toNat * 1)), (6, el gv3 (a1.By.toNat * 1)), (7, .bool gb5)] ∧ D = Cls w [] [.obj b3 [.int .i64 0, .slice none 0 0, .slice none 0 0] 111, .obj b2 [.int .i64 a1.Kind, .int .i64 a1.Who, .int .i64 a1.By] 113, .obj b1 [.int .i64 a0.Lead, gv1, gv3] 111, .sl gv1 3 1 (gl2.map I), .sl gv3 3 1 (gl4.map I)] ∧ m80_quirref_PactStep_K2 a1 x4 gl4 a0 gl2 x5 gb5 = some r) ?_ ?_
    ·
      refine W.region ?_
      refine L.y rfl (Y.fieldP fd111_0 rfl) ?_
      refine L.y rfl (Y.loadP (i := 2) ag3 rfl rfl rfl) ?_
      refine L.ite h rfl (Y.eql rfl rfl) (fun c115 h => ?_) (fun c115 h => ?_)
      ·
        refine L.y rfl (Y.assign rfl) ?_
        refine L.nil ?_
        exact E.joinJ ⟨true, rfl, rfl, h⟩ ⟨rfl, rfl, rfl, rfl, rfl, rfl, trivial⟩ (fun _ hw => hw)
      ·
        refine L.y rfl (Y.assign rfl) ?_
        refine L.nil ?_
        exact E.joinJ ⟨false, rfl, rfl, h⟩ ⟨rfl, rfl, rfl, rfl, rfl, rfl, trivial⟩ (fun _ hw => hw)
    ·
      rintro _ _ ⟨gb5, rfl, rfl, h⟩
      rw [m80_quirref_PactStep_K2] at h
      rcases gb5 with _ | _
      ·
        replace h := iteF h
        refine W.seqJ (fun gs D => ∃ (gl6 : (List Int)), gs = [(2, pt b1 0), (4, pt b3 0)] ∧ D = Cls w [] [.obj b3 [.int .i64 0, .slice none 0 0, .slice none 0 0] 111, .obj b1 [.int .i64 a0.Lead, gv1, gv3] 111, .sl gv1 3 1 (gl2.map I), .sl gv3 3 1 (gl6.map I)] ∧ m80_quirref_PactStep_K3 a0 gl2 gl6 = some r) ?_ ?_
        ·
          refine W.block ?_
          refine W.seq ?_
          refine W.region ?_
          refine L.cutJ 9 (fun gs D => ∃ (gb7 : Bool), gs = [(2, pt b1 0), (3, pt b2 0), (4, pt b3 0), (5, el gv3 (a1.Who.toNat * 1)), (6, el gv3 (a1.By.toNat * 1)), (7, .bool false), (38, .bool gb7)] ∧ D = Cls w [] [.obj b3 [.int .i64 0, .slice none 0 0, .slice none 0 0] 111, .obj b2 [.int .i64 a1.Kind, .int .i64 a1.Who, .int .i64 a1.By] 113, .obj b1 [.int .i64 a0.Lead, gv1, gv3] 111, .sl gv1 3 1 (gl2.map I), .sl gv3 3 1 (gl4.map I)] ∧ m80_quirref_PactStep_K4 gl4 a1 a0 gl2 x4 x5 gb7 = some r) ?_ ?_
          ·
            refine L.y rfl (Y.fieldP fd113_0 rfl) ?_
            refine L.y rfl (Y.loadP (i := 1) ag3 rfl rfl rfl) ?_
            refine L.ite h rfl (Y.eql rfl rfl) (fun c39 h => ?_) (fun c39 h => ?_)
            ·
              refine L.y rfl (Y.move rfl) ?_
              refine L.take rfl ?_
              refine L.y rfl (Y.move rfl) ?_
              refine L.take rfl ?_
              refine L.y rfl (Y.nilCheck rfl) ?_
              refine L.take rfl ?_
              refine L.y rfl (Y.loadE1 (u := .int .i64 x4) ag3 rfl (fun w hw => As.at_ (hw.get (i := 4) rfl)) (idx_map ex4)) ?_
              refine L.take rfl ?_
              refine L.ite h rfl (Y.eql rfl rfl) (fun c40 h => ?_) (fun c40 h => ?_)
              ·
                refine L.y rfl (Y.pickT rfl rfl) ?_
                refine L.nil ?_
                exact E.joinJ ⟨true, rfl, rfl, h⟩ ⟨rfl, rfl, rfl, rfl, rfl, rfl, rfl, trivial⟩ (fun _ hw => hw)
              ·
                refine L.y rfl (Y.pickT rfl rfl) ?_
                refine L.nil ?_
                exact E.joinJ ⟨false, rfl, rfl, h⟩ ⟨rfl, rfl, rfl, rfl, rfl, rfl, rfl, trivial⟩ (fun _ hw => hw)
            ·
              refine L.y rfl (Y.move rfl) ?_
              refine L.pass rfl rfl (by nofun) ?_
              refine L.pass rfl rfl (by nofun) ?_
              refine L.pass rfl rfl (by nofun) ?_
              refine L.pass rfl rfl (by nofun) ?_
              refine L.y rfl (Y.pickF rfl rfl) ?_
              refine L.nil ?_
              exact E.joinJ ⟨false, rfl, rfl, h⟩ ⟨rfl, rfl, rfl, rfl, rfl, rfl, rfl, trivial⟩ (fun _ hw => hw)
          ·
            rintro _ _ ⟨gb7, rfl, rfl, h⟩
            rw [m80_quirref_PactStep_K4] at h
            rcases gb7 with _ | _
            ·
              replace h := iteF h
              refine L.y rfl (Y.assign rfl) ?_
              refine L.nil ?_
              refine E.thenN ?_
              refine W.condF rfl ?_
              refine W.seq ?_
              refine W.region ?_
              refine L.cutJ 9 (fun gs D => ∃ (gb8 : Bool), gs = [(2, pt b1 0), (3, pt b2 0), (4, pt b3 0), (5, el gv3 (a1.Who.toNat * 1)), (6, el gv3 (a1.By.toNat * 1)), (7, .bool false), (50, .bool gb8)] ∧ D = Cls w [] [.obj b3 [.int .i64 0, .slice none 0 0, .slice none 0 0] 111, .obj b2 [.int .i64 a1.Kind, .int .i64 a1.Who, .int .i64 a1.By] 113, .obj b1 [.int .i64 a0.Lead, gv1, gv3] 111, .sl gv1 3 1 (gl2.map I), .sl gv3 3 1 (gl4.map I)] ∧ m80_quirref_PactStep_K5 gl4 a1 a0 gl2 x4 x5 gb8 = some r) ?_ ?_
              ·
                refine L.y rfl (Y.fieldP fd113_0 rfl) ?_
                refine L.y rfl (Y.loadP (i := 1) ag3 rfl rfl rfl) ?_
                refine L.ite h rfl (Y.eql rfl rfl) (fun c36 h => ?_) (fun c36 h => ?_)
                ·
                  refine L.y rfl (Y.move rfl) ?_
                  refine L.take rfl ?_
                  refine L.y rfl (Y.move rfl) ?_
                  refine L.take rfl ?_
                  refine L.y rfl (Y.nilCheck rfl) ?_
                  refine L.take rfl ?_
                  refine L.y rfl (Y.loadE1 (u := .int .i64 x4) ag3 rfl (fun w hw => As.at_ (hw.get (i := 4) rfl)) (idx_map ex4)) ?_
                  refine L.take rfl ?_
                  refine L.ite h rfl (Y.eql rfl rfl) (fun c37 h => ?_) (fun c37 h => ?_)
                  ·
                    refine L.y rfl (Y.pickT rfl rfl) ?_
                    refine L.nil ?_
                    exact E.joinJ ⟨true, rfl, rfl, h⟩ ⟨rfl, rfl, rfl, rfl, rfl, rfl, rfl, trivial⟩ (fun _ hw => hw)
                  ·
                    refine L.y rfl (Y.pickT rfl rfl) ?_
                    refine L.nil ?_
                    exact E.joinJ ⟨false, rfl, rfl, h⟩ ⟨rfl, rfl, rfl, rfl, rfl, rfl, rfl, trivial⟩ (fun _ hw => hw)
                ·
                  refine L.y rfl (Y.move rfl) ?_
                  refine L.pass rfl rfl (by nofun) ?_
                  refine L.pass rfl rfl (by nofun) ?_
                  refine L.pass rfl rfl (by nofun) ?_
                  refine L.pass rfl rfl (by nofun) ?_
                  refine L.y rfl (Y.pickF rfl rfl) ?_
                  refine L.nil ?_
                  exact E.joinJ ⟨false, rfl, rfl, h⟩ ⟨rfl, rfl, rfl, rfl, rfl, rfl, rfl, trivial⟩ (fun _ hw => hw)
              ·
                rintro _ _ ⟨gb8, rfl, rfl, h⟩
                rw [m80_quirref_PactStep_K5] at h
                rcases gb8 with _ | _
                ·
                  replace h := iteF h
                  refine L.y rfl (Y.assign rfl) ?_
                  refine L.nil ?_
                  refine E.thenN ?_
                  refine W.condF rfl ?_
                  refine W.seqJ (fun gs D => gs = [(2, pt b1 0), (3, pt b2 0), (4, pt b3 0), (5, el gv3 (a1.Who.toNat * 1)), (6, el gv3 (a1.By.toNat * 1)), (7, .bool false), (53, .bool false)] ∧ D = Cls w [] [.obj b3 [.int .i64 0, .slice none 0 0, .slice none 0 0] 111, .obj b2 [.int .i64 a1.Kind, .int .i64 a1.Who, .int .i64 a1.By] 113, .obj b1 [.int .i64 a0.Lead, gv1, gv3] 111, .sl gv1 3 1 (gl2.map I), .sl gv3 3 1 (gl4.map I)] ∧ m80_quirref_PactStep_K6 a1 x4 a0 gl4 gl2 x5 = some r) ?_ ?_
                  ·
                    refine W.region ?_
                    refine L.y rfl (Y.fieldP fd113_0 rfl) ?_
                    refine L.y rfl (Y.loadP (i := 1) ag3 rfl rfl rfl) ?_
                    refine L.ite h rfl (Y.eql rfl rfl) (fun c34 h => ?_) (fun c34 h => ?_)
                    ·
                      refine L.y rfl (Y.move rfl) ?_
                      refine L.take rfl ?_
                      refine L.y rfl (Y.move rfl) ?_
                      refine L.y rfl (Y.pickT rfl rfl) ?_
                      refine L.y rfl (Y.move rfl) ?_
                      refine L.pass rfl rfl (by nofun) ?_
                      refine L.pass rfl rfl (by nofun) ?_
                      refine L.pass rfl rfl (by nofun) ?_
                      refine L.pass rfl rfl (by nofun) ?_
                      refine L.y rfl (Y.pickF rfl rfl) ?_
                      refine L.y rfl (Y.assign rfl) ?_
                      refine L.nil ?_
                      exact E.joinJ ⟨rfl, rfl, h⟩ ⟨rfl, rfl, rfl, rfl, rfl, rfl, rfl, trivial⟩ (fun _ hw => hw)
                    ·
                      refine L.y rfl (Y.move rfl) ?_
                      refine L.pass rfl rfl (by nofun) ?_
                      refine L.y rfl (Y.pickF rfl rfl) ?_
                      refine L.y rfl (Y.move rfl) ?_
                      refine L.pass rfl rfl (by nofun) ?_
                      refine L.pass rfl rfl (by nofun) ?_
                      refine L.pass rfl rfl (by nofun) ?_
                      refine L.pass rfl rfl (by nofun) ?_
                      refine L.y rfl (Y.pickF rfl rfl) ?_
                      refine L.y rfl (Y.assign rfl) ?_
                      refine L.nil ?_
                      exact E.joinJ ⟨rfl, rfl, h⟩ ⟨rfl, rfl, rfl, rfl, rfl, rfl, rfl, trivial⟩ (fun _ hw => hw)
                  ·
                    rintro _ _ ⟨rfl, rfl, h⟩
                    rw [m80_quirref_PactStep_K6] at h
                    refine W.condF rfl ?_
                    refine W.seqJ (fun gs D => gs = [(2, pt b1 0), (3, pt b2 0), (4, pt b3 0), (5, el gv3 (a1.Who.toNat * 1)), (6, el gv3 (a1.By.toNat * 1)), (7, .bool false), (71, .bool false)] ∧ D = Cls w [] [.obj b3 [.int .i64 0, .slice none 0 0, .slice none 0 0] 111, .obj b2 [.int .i64 a1.Kind, .int .i64 a1.Who, .int .i64 a1.By] 113, .obj b1 [.int .i64 a0.Lead, gv1, gv3] 111, .sl gv1 3 1 (gl2.map I), .sl gv3 3 1 (gl4.map I)] ∧ m80_quirref_PactStep_K7 a1 x4 a0 gl4 gl2 x5 = some r) ?_ ?_
                    ·
                      refine W.region ?_
                      refine L.y rfl (Y.fieldP fd113_0 rfl) ?_
                      refine L.y rfl (Y.loadP (i := 1) ag3 rfl rfl rfl) ?_
                      refine L.ite h rfl (Y.eql rfl rfl) (fun c33 h => ?_) (fun c33 h => ?_)
                      ·
                        refine L.y rfl (Y.move rfl) ?_
                        refine L.take rfl ?_
                        refine L.y rfl (Y.move rfl) ?_
                        refine L.y rfl (Y.pickT rfl rfl) ?_
                        refine L.y rfl (Y.move rfl) ?_
                        refine L.pass rfl rfl (by nofun) ?_
                        refine L.pass rfl rfl (by nofun) ?_
                        refine L.pass rfl rfl (by nofun) ?_
                        refine L.pass rfl rfl (by nofun) ?_
                        refine L.y rfl (Y.pickF rfl rfl) ?_
                        refine L.y rfl (Y.move rfl) ?_
                        refine L.pass rfl rfl (by nofun) ?_
                        refine L.pass rfl rfl (by nofun) ?_
                        refine L.pass rfl rfl (by nofun) ?_
                        refine L.pass rfl rfl (by nofun) ?_
                        refine L.pass rfl rfl (by nofun) ?_
                        refine L.pass rfl rfl (by nofun) ?_
                        refine L.pass rfl rfl (by nofun) ?_
                        refine L.y rfl (Y.pickF rfl rfl) ?_
                        refine L.y rfl (Y.assign rfl) ?_
                        refine L.nil ?_
                        exact E.joinJ ⟨rfl, rfl, h⟩ ⟨rfl, rfl, rfl, rfl, rfl, rfl, rfl, trivial⟩ (fun _ hw => hw)
                      ·
                        refine L.y rfl (Y.move rfl) ?_
                        refine L.pass rfl rfl (by nofun) ?_
                        refine L.y rfl (Y.pickF rfl rfl) ?_
                        refine L.y rfl (Y.move rfl) ?_
                        refine L.pass rfl rfl (by nofun) ?_
                        refine L.pass rfl rfl (by nofun) ?_
                        refine L.pass rfl rfl (by nofun) ?_
                        refine L.pass rfl rfl (by nofun) ?_
                        refine L.y rfl (Y.pickF rfl rfl) ?_
                        refine L.y rfl (Y.move rfl) ?_
                        refine L.pass rfl rfl (by nofun) ?_
                        refine L.pass rfl rfl (by nofun) ?_
                        refine L.pass rfl rfl (by nofun) ?_
                        refine L.pass rfl rfl (by nofun) ?_
                        refine L.pass rfl rfl (by nofun) ?_
                        refine L.pass rfl rfl (by nofun) ?_
                        refine L.pass rfl rfl (by nofun) ?_
                        refine L.y rfl (Y.pickF rfl rfl) ?_
                        refine L.y rfl (Y.assign rfl) ?_
                        refine L.nil ?_
                        exact E.joinJ ⟨rfl, rfl, h⟩ ⟨rfl, rfl, rfl, rfl, rfl, rfl, rfl, trivial⟩ (fun _ hw => hw)
                    ·
                      rintro _ _ ⟨rfl, rfl, h⟩
                      rw [m80_quirref_PactStep_K7] at h
                      refine W.condF rfl ?_
                      refine W.seqJ (fun gs D => gs = [(2, pt b1 0), (3, pt b2 0), (4, pt b3 0), (5, el gv3 (a1.Who.toNat * 1)), (6, el gv3 (a1.By.toNat * 1)), (7, .bool false), (98, .bool false)] ∧ D = Cls w [] [.obj b3 [.int .i64 0, .slice none 0 0, .slice none 0 0] 111, .obj b2 [.int .i64 a1.Kind, .int .i64 a1.Who, .int .i64 a1.By] 113, .obj b1 [.int .i64 a0.Lead, gv1, gv3] 111, .sl gv1 3 1 (gl2.map I), .sl gv3 3 1 (gl4.map I)] ∧ m80_quirref_PactStep_K8 a1 x4 a0 gl4 gl2 x5 = some r) ?_ ?_
                      ·
                        refine W.seq ?_
                        refine W.region ?_
                        refine L.y rfl (Y.fieldP fd113_0 rfl) ?_
                        refine L.y rfl (Y.loadP (i := 1) ag3 rfl rfl rfl) ?_
                        refine L.ite h rfl (Y.eql rfl rfl) (fun c30 h => ?_) (fun c30 h => ?_)
                        ·
                          refine L.y rfl (Y.move rfl) ?_
                          refine L.take rfl ?_
                          refine L.y rfl (Y.move rfl) ?_
                          refine L.y rfl (Y.pickT rfl rfl) ?_
                          refine L.y rfl (Y.move rfl) ?_
                          refine L.pass rfl rfl (by nofun) ?_
                          refine L.pass rfl rfl (by nofun) ?_
                          refine L.pass rfl rfl (by nofun) ?_
                          refine L.y rfl (Y.pickF rfl rfl) ?_
                          refine L.y rfl (Y.assign rfl) ?_
                          refine L.nil ?_
                          refine E.thenN ?_
                          refine W.condF rfl ?_
                          refine W.region ?_
                          refine L.y rfl (Y.fieldP fd113_0 rfl) ?_
                          refine L.y rfl (Y.loadP (i := 1) ag3 rfl rfl rfl) ?_
                          refine L.ite h rfl (Y.eql rfl rfl) (fun c31 h => ?_) (fun c31 h => ?_)
                          ·
                            refine L.y rfl (Y.move rfl) ?_
                            refine L.take rfl ?_
                            refine L.y rfl (Y.move rfl) ?_
                            refine L.y rfl (Y.pickT rfl rfl) ?_
                            refine L.y rfl (Y.assign rfl) ?_
                            refine L.nil ?_
                            exact E.joinJ ⟨rfl, rfl, h⟩ ⟨rfl, rfl, rfl, rfl, rfl, rfl, rfl, trivial⟩ (fun _ hw => hw)
                          ·
                            refine L.y rfl (Y.move rfl) ?_
                            refine L.pass rfl rfl (by nofun) ?_
                            refine L.y rfl (Y.pickF rfl rfl) ?_
                            refine L.y rfl (Y.assign rfl) ?_
                            refine L.nil ?_
                            exact E.joinJ ⟨rfl, rfl, h⟩ ⟨rfl, rfl, rfl, rfl, rfl, rfl, rfl, trivial⟩ (fun _ hw => hw)
                        ·
                          refine L.y rfl (Y.move rfl) ?_
                          refine L.pass rfl rfl (by nofun) ?_
                          refine L.y rfl (Y.pickF rfl rfl) ?_
                          refine L.y rfl (Y.move rfl) ?_
                          refine L.pass rfl rfl (by nofun) ?_
                          refine L.pass rfl rfl (by nofun) ?_
                          refine L.pass rfl rfl (by nofun) ?_
                          refine L.y rfl (Y.pickF rfl rfl) ?_
                          refine L.y rfl (Y.assign rfl) ?_
                          refine L.nil ?_
                          refine E.thenN ?_
                          refine W.condF rfl ?_
                          refine W.region ?_
                          refine L.y rfl (Y.fieldP fd113_0 rfl) ?_
                          refine L.y rfl (Y.loadP (i := 1) ag3 rfl rfl rfl) ?_
                          refine L.ite h rfl (Y.eql rfl rfl) (fun c32 h => ?_) (fun c32 h => ?_)
                          ·
                            refine L.y rfl (Y.move rfl) ?_
                            refine L.take rfl ?_
                            refine L.y rfl (Y.move rfl) ?_
                            refine L.y rfl (Y.pickT rfl rfl) ?_
                            refine L.y rfl (Y.assign rfl) ?_
                            refine L.nil ?_
                            exact E.joinJ ⟨rfl, rfl, h⟩ ⟨rfl, rfl, rfl, rfl, rfl, rfl, rfl, trivial⟩ (fun _ hw => hw)
                          ·
                            refine L.y rfl (Y.move rfl) ?_
                            refine L.pass rfl rfl (by nofun) ?_
                            refine L.y rfl (Y.pickF rfl rfl) ?_
                            refine L.y rfl (Y.assign rfl) ?_
                            refine L.nil ?_
                            exact E.joinJ ⟨rfl, rfl, h⟩ ⟨rfl, rfl, rfl, rfl, rfl, rfl, rfl, trivial⟩ (fun _ hw => hw)
                      ·
                        rintro _ _ ⟨rfl, rfl, h⟩
                        rw [m80_quirref_PactStep_K8] at h
                        refine W.condF rfl ?_
                        refine W.seqJ (fun gs D => gs = [(2, pt b1 0), (3, pt b2 0), (4, pt b3 0), (5, el gv3 (a1.Who.toNat * 1)), (6, el gv3 (a1.By.toNat * 1)), (7, .bool false), (117, .bool false)] ∧ D = Cls w [] [.obj b3 [.int .i64 0, .slice none 0 0, .slice none 0 0] 111, .obj b2 [.int .i64 a1.Kind, .int .i64 a1.Who, .int .i64 a1.By] 113, .obj b1 [.int .i64 a0.Lead, gv1, gv3] 111, .sl gv1 3 1 (gl2.map I), .sl gv3 3 1 (gl4.map I)] ∧ m80_quirref_PactStep_K9 a1 x4 a0 gl4 gl2 x5 = some r) ?_ ?_
                        ·
                          refine W.region ?_
                          refine L.y rfl (Y.fieldP fd113_0 rfl) ?_
                          refine L.y rfl (Y.loadP (i := 1) ag3 rfl rfl rfl) ?_
                          refine L.ite h rfl (Y.eql rfl rfl) (fun c29 h => ?_) (fun c29 h => ?_)
                          ·
                            refine L.y rfl (Y.move rfl) ?_
                            refine L.take rfl ?_
                            refine L.y rfl (Y.move rfl) ?_
                            refine L.y rfl (Y.pickT rfl rfl) ?_
                            refine L.y rfl (Y.move rfl) ?_
                            refine L.pass rfl rfl (by nofun) ?_
                            refine L.pass rfl rfl (by nofun) ?_
                            refine L.pass rfl rfl (by nofun) ?_
                            refine L.pass rfl rfl (by nofun) ?_
                            refine L.y rfl (Y.pickF rfl rfl) ?_
                            refine L.y rfl (Y.assign rfl) ?_
                            refine L.nil ?_
                            exact E.joinJ ⟨rfl, rfl, h⟩ ⟨rfl, rfl, rfl, rfl, rfl, rfl, rfl, trivial⟩ (fun _ hw => hw)
                          ·
                            refine L.y rfl (Y.move rfl) ?_
                            refine L.pass rfl rfl (by nofun) ?_
                            refine L.y rfl (Y.pickF rfl rfl) ?_
                            refine L.y rfl (Y.move rfl) ?_
                            refine L.pass rfl rfl (by nofun) ?_
                            refine L.pass rfl rfl (by nofun) ?_
                            refine L.pass rfl rfl (by nofun) ?_
                            refine L.pass rfl rfl (by nofun) ?_
                            refine L.y rfl (Y.pickF rfl rfl) ?_
                            refine L.y rfl (Y.assign rfl) ?_
                            refine L.nil ?_
                            exact E.joinJ ⟨rfl, rfl, h⟩ ⟨rfl, rfl, rfl, rfl, rfl, rfl, rfl, trivial⟩ (fun _ hw => hw)
                        ·
                          rintro _ _ ⟨rfl, rfl, h⟩
                          rw [m80_quirref_PactStep_K9] at h
                          refine W.condF rfl ?_
                          refine W.seq ?_
                          refine W.region ?_
                          refine L.cutJ 9 (fun gs D => ∃ (gb9 : Bool), gs = [(2, pt b1 0), (3, pt b2 0), (4, pt b3 0), (5, el gv3 (a1.Who.toNat * 1)), (6, el gv3 (a1.By.toNat * 1)), (7, .bool false), (140, .bool gb9)] ∧ D = Cls w [] [.obj b3 [.int .i64 0, .slice none 0 0, .slice none 0 0] 111, .obj b2 [.int .i64 a1.Kind, .int .i64 a1.Who, .int .i64 a1.By] 113, .obj b1 [.int .i64 a0.Lead, gv1, gv3] 111, .sl gv1 3 1 (gl2.map I), .sl gv3 3 1 (gl4.map I)] ∧ m80_quirref_PactStep_K10 a0 gl4 a1 gl2 x4 x5 gb9 = some r) ?_ ?_
                          ·
                            refine L.y rfl (Y.fieldP fd113_0 rfl) ?_
                            refine L.y rfl (Y.loadP (i := 1) ag3 rfl rfl rfl) ?_
                            refine L.ite h rfl (Y.eql rfl rfl) (fun c27 h => ?_) (fun c27 h => ?_)
                            ·
                              refine L.y rfl (Y.move rfl) ?_
                              refine L.take rfl ?_
                              refine L.y rfl (Y.move rfl) ?_
                              refine L.take rfl ?_
                              refine L.y rfl (Y.nilCheck rfl) ?_
                              refine L.take rfl ?_
                              refine L.y rfl (Y.loadE1 (u := .int .i64 x4) ag3 rfl (fun w hw => As.at_ (hw.get (i := 4) rfl)) (idx_map ex4)) ?_
                              refine L.take rfl ?_
                              refine L.ite h rfl (Y.lss rfl rfl) (fun c28 h => ?_) (fun c28 h => ?_)
                              ·
                                refine L.y rfl (Y.pickT rfl rfl) ?_
                                refine L.nil ?_
                                exact E.joinJ ⟨true, rfl, rfl, h⟩ ⟨rfl, rfl, rfl, rfl, rfl, rfl, rfl, trivial⟩ (fun _ hw => hw)
                              ·
                                refine L.y rfl (Y.pickT rfl rfl) ?_
                                refine L.nil ?_
                                exact E.joinJ ⟨false, rfl, rfl, h⟩ ⟨rfl, rfl, rfl, rfl, rfl, rfl, rfl, trivial⟩ (fun _ hw => hw)
                            ·
                              refine L.y rfl (Y.move rfl) ?_
                              refine L.pass rfl rfl (by nofun) ?_
                              refine L.pass rfl rfl (by nofun) ?_
                              refine L.pass rfl rfl (by nofun) ?_
                              refine L.pass rfl rfl (by nofun) ?_
                              refine L.y rfl (Y.pickF rfl rfl) ?_
                              refine L.nil ?_
                              exact E.joinJ ⟨false, rfl, rfl, h⟩ ⟨rfl, rfl, rfl, rfl, rfl, rfl, rfl, trivial⟩ (fun _ hw => hw)
                          ·
                            rintro _ _ ⟨gb9, rfl, rfl, h⟩
                            rw [m80_quirref_PactStep_K10] at h
                            rcases gb9 with _ | _
                            ·
                              replace h := iteF h
                              refine L.y rfl (Y.move rfl) ?_
                              refine L.pass rfl rfl (by nofun) ?_
                              refine L.pass rfl rfl (by nofun) ?_
                              refine L.y rfl (Y.pickF rfl rfl) ?_
                              refine L.y rfl (Y.assign rfl) ?_
                              refine L.nil ?_
                              refine E.thenN ?_
                              refine W.condF rfl ?_
                              refine W.seq ?_
                              refine W.region ?_
                              refine L.cutJ 10 (fun gs D => ∃ (gb10 : Bool), gs = [(2, pt b1 0), (3, pt b2 0), (4, pt b3 0), (5, el gv3 (a1.Who.toNat * 1)), (6, el gv3 (a1.By.toNat * 1)), (160, .bool gb10)] ∧ D = Cls w [] [.obj b3 [.int .i64 0, .slice none 0 0, .slice none 0 0] 111, .obj b2 [.int .i64 a1.Kind, .int .i64 a1.Who, .int .i64 a1.By] 113, .obj b1 [.int .i64 a0.Lead, gv1, gv3] 111, .sl gv1 3 1 (gl2.map I), .sl gv3 3 1 (gl4.map I)] ∧ m80_quirref_PactStep_K11 x4 x5 gl4 a1 a0 gl2 gb10 = some r) ?_ ?_
                              ·
                                refine L.y rfl (Y.fieldP fd113_0 rfl) ?_
                                refine L.y rfl (Y.loadP (i := 1) ag3 rfl rfl rfl) ?_
                                refine L.ite h rfl (Y.eql rfl rfl) (fun c23 h => ?_) (fun c23 h => ?_)
                                ·
                                  refine L.y rfl (Y.move rfl) ?_
                                  refine L.take rfl ?_
                                  refine L.y rfl (Y.fieldP fd113_1 rfl) ?_
                                  refine L.take rfl ?_
                                  refine L.y rfl (Y.loadP (i := 1) ag3 rfl rfl rfl) ?_
                                  refine L.take rfl ?_
                                  refine L.y rfl (Y.fieldP fd113_2 rfl) ?_
                                  refine L.take rfl ?_
                                  refine L.y rfl (Y.loadP (i := 1) ag3 rfl rfl rfl) ?_
                                  refine L.take rfl ?_
                                  refine L.ite h rfl (Y.neq rfl rfl) (fun c24 h => ?_) (fun c24 h => ?_)
                                  ·
                                    refine L.y rfl (Y.pickT rfl rfl) ?_
                                    refine L.nil ?_
                                    exact E.joinJ ⟨true, rfl, rfl, h⟩ ⟨rfl, rfl, rfl, rfl, rfl, rfl, trivial⟩ (fun _ hw => hw)
                                  ·
                                    refine L.y rfl (Y.pickT rfl rfl) ?_
                                    refine L.nil ?_
                                    exact E.joinJ ⟨false, rfl, rfl, h⟩ ⟨rfl, rfl, rfl, rfl, rfl, rfl, trivial⟩ (fun _ hw => hw)
                                ·
                                  refine L.y rfl (Y.move rfl) ?_
                                  refine L.pass rfl rfl (by nofun) ?_
                                  refine L.pass rfl rfl (by nofun) ?_
                                  refine L.pass rfl rfl (by nofun) ?_
                                  refine L.pass rfl rfl (by nofun) ?_
                                  refine L.pass rfl rfl (by nofun) ?_
                                  refine L.y rfl (Y.pickF rfl rfl) ?_
                                  refine L.nil ?_
                                  exact E.joinJ ⟨false, rfl, rfl, h⟩ ⟨rfl, rfl, rfl, rfl, rfl, rfl, trivial⟩ (fun _ hw => hw)
                              ·
                                rintro _ _ ⟨gb10, rfl, rfl, h⟩
                                rw [m80_quirref_PactStep_K11] at h
                                rcases gb10 with _ | _
                                ·
                                  replace h := iteF h
                                  refine L.y rfl (Y.move rfl) ?_
                                  refine L.pass rfl rfl (by nofun) ?_
                                  refine L.pass rfl rfl (by nofun) ?_
                                  refine L.pass rfl rfl (by nofun) ?_
                                  refine L.pass rfl rfl (by nofun) ?_
                                  refine L.y rfl (Y.pickF rfl rfl) ?_
                                  refine L.y rfl (Y.move rfl) ?_
                                  refine L.pass rfl rfl (by nofun) ?_
                                  refine L.pass rfl rfl (by nofun) ?_
                                  refine L.pass rfl rfl (by nofun) ?_
                                  refine L.pass rfl rfl (by nofun) ?_
                                  refine L.y rfl (Y.pickF rfl rfl) ?_
                                  refine L.y rfl (Y.assign rfl) ?_
                                  refine L.nil ?_
                                  refine E.thenN ?_
                                  refine W.condF rfl ?_
                                  refine W.seq ?_
                                  refine W.region ?_
                                  refine L.cutJ 10 (fun gs D => ∃ (gb11 : Bool), gs = [(2, pt b1 0), (4, pt b3 0), (5, el gv3 (a1.Who.toNat * 1)), (6, el gv3 (a1.By.toNat * 1)), (188, .bool gb11)] ∧ D = Cls w [] [.obj b3 [.int .i64 0, .slice none 0 0, .slice none 0 0] 111, .obj b1 [.int .i64 a0.Lead, gv1, gv3] 111, .sl gv1 3 1 (gl2.map I), .sl gv3 3 1 (gl4.map I)] ∧ m80_quirref_PactStep_K12 x4 x5 gl4 a1 a0 gl2 gb11 = some r) ?_ ?_
                                  ·
                                    refine L.y rfl (Y.fieldP fd113_0 rfl) ?_
                                    refine L.y rfl (Y.loadP (i := 1) ag3 rfl rfl rfl) ?_
                                    refine L.ite h rfl (Y.eql rfl rfl) (fun c11 h => ?_) (fun c11 h => ?_)
                                    ·
                                      refine L.y rfl (Y.move rfl) ?_
                                      refine L.take rfl ?_
                                      refine L.y rfl (Y.fieldP fd113_1 rfl) ?_
                                      refine L.take rfl ?_
                                      refine L.y rfl (Y.loadP (i := 1) ag3 rfl rfl rfl) ?_
                                      refine L.take rfl ?_
                                      refine L.y rfl (Y.fieldP fd113_2 rfl) ?_
                                      refine L.take rfl ?_
                                      refine L.y rfl (Y.loadP (i := 1) ag3 rfl rfl rfl) ?_
                                      refine L.take rfl ?_
                                      refine L.ite h rfl (Y.neq rfl rfl) (fun c12 h => ?_) (fun c12 h => ?_)
                                      ·
                                        refine L.y rfl (Y.pickT rfl rfl) ?_
                                        refine L.nil ?_
                                        exact E.joinJ ⟨true, rfl, rfl, h⟩ ⟨rfl, rfl, rfl, rfl, rfl, trivial⟩ (fun _ hw => hw.sel [0, 2, 3, 4] (by decide) rfl)
                                      ·
                                        refine L.y rfl (Y.pickT rfl rfl) ?_
                                        refine L.nil ?_
                                        exact E.joinJ ⟨false, rfl, rfl, h⟩ ⟨rfl, rfl, rfl, rfl, rfl, trivial⟩ (fun _ hw => hw.sel [0, 2, 3, 4] (by decide) rfl)
                                    ·
                                      refine L.y rfl (Y.move rfl) ?_
                                      refine L.pass rfl rfl (by nofun) ?_
                                      refine L.pass rfl rfl (by nofun) ?_
                                      refine L.pass rfl rfl (by nofun) ?_
                                      refine L.pass rfl rfl (by nofun) ?_
                                      refine L.pass rfl rfl (by nofun) ?_
                                      refine L.y rfl (Y.pickF rfl rfl) ?_
                                      refine L.nil ?_
                                      exact E.joinJ ⟨false, rfl, rfl, h⟩ ⟨rfl, rfl, rfl, rfl, rfl, trivial⟩ (fun _ hw => hw.sel [0, 2, 3, 4] (by decide) rfl)
                                  ·
                                    rintro _ _ ⟨gb11, rfl, rfl, h⟩
                                    rw [m80_quirref_PactStep_K12] at h
                                    rcases gb11 with _ | _
                                    ·
                                      replace h := iteF h
                                      refine L.y rfl (Y.move rfl) ?_
                                      refine L.pass rfl rfl (by nofun) ?_
                                      refine L.pass rfl rfl (by nofun) ?_
                                      refine L.pass rfl rfl (by nofun) ?_
                                      refine L.pass rfl rfl (by nofun) ?_
                                      refine L.y rfl (Y.pickF rfl rfl) ?_
                                      refine L.y rfl (Y.move rfl) ?_
                                      refine L.pass rfl rfl (by nofun) ?_
                                      refine L.pass rfl rfl (by nofun) ?_
                                      refine L.pass rfl rfl (by nofun) ?_
                                      refine L.pass rfl rfl (by nofun) ?_
                                      refine L.y rfl (Y.pickF rfl rfl) ?_
                                      refine L.y rfl (Y.assign rfl) ?_
                                      refine L.nil ?_
                                      refine E.thenN ?_
                                      refine W.condF rfl ?_
                                      refine W.skip ?_
                                      refine E.blockN ?_
                                      exact E.joinJ ⟨gl4, rfl, rfl, h⟩ ⟨rfl, rfl, trivial⟩ (fun _ hw => hw)
                                    ·
                                      replace h := iteT h
                                      refine L.cutJ 12 (fun gs D => ∃ (gb12 : Bool), gs = [(2, pt b1 0), (4, pt b3 0), (5, el gv3 (a1.Who.toNat * 1)), (6, el gv3 (a1.By.toNat * 1)), (200, .bool gb12)] ∧ D = Cls w [] [.obj b3 [.int .i64 0, .slice none 0 0, .slice none 0 0] 111, .obj b1 [.int .i64 a0.Lead, gv1, gv3] 111, .sl gv1 3 1 (gl2.map I), .sl gv3 3 1 (gl4.map I)] ∧ m80_quirref_PactStep_K13 gl4 a1 a0 gl2 gb12 = some r) ?_ ?_
                                      ·
                                        refine L.y rfl (Y.move rfl) ?_
                                        refine L.take rfl ?_
                                        refine L.y rfl (Y.move rfl) ?_
                                        refine L.take rfl ?_
                                        refine L.y rfl (Y.nilCheck rfl) ?_
                                        refine L.take rfl ?_
                                        refine L.y rfl (Y.loadE1 (u := .int .i64 x4) ag3 rfl (fun w hw => As.at_ (hw.get (i := 3) rfl)) (idx_map ex4)) ?_
                                        refine L.take rfl ?_
                                        refine L.ite h rfl (Y.eql rfl rfl) (fun c9 h => ?_) (fun c9 h => ?_)
                                        ·
                                          refine L.y rfl (Y.pickT rfl rfl) ?_
                                          refine L.y rfl (Y.move rfl) ?_
                                          refine L.take rfl ?_
                                          refine L.y rfl (Y.move rfl) ?_
                                          refine L.take rfl ?_
                                          refine L.y rfl (Y.nilCheck rfl) ?_
                                          refine L.take rfl ?_
                                          refine L.y rfl (Y.loadE1 (u := .int .i64 x5) ag3 rfl (fun w hw => As.at_ (hw.get (i := 3) rfl)) (idx_map ex5)) ?_
                                          refine L.take rfl ?_
                                          refine L.ite h rfl (Y.eql rfl rfl) (fun c10 h => ?_) (fun c10 h => ?_)
                                          ·
                                            refine L.y rfl (Y.pickT rfl rfl) ?_
                                            refine L.nil ?_
                                            exact E.joinJ ⟨true, rfl, rfl, h⟩ ⟨rfl, rfl, rfl, rfl, rfl, trivial⟩ (fun _ hw => hw)
                                          ·
                                            refine L.y rfl (Y.pickT rfl rfl) ?_
                                            refine L.nil ?_
                                            exact E.joinJ ⟨false, rfl, rfl, h⟩ ⟨rfl, rfl, rfl, rfl, rfl, trivial⟩ (fun _ hw => hw)
                                        ·
                                          refine L.y rfl (Y.pickT rfl rfl) ?_
                                          refine L.y rfl (Y.move rfl) ?_
                                          refine L.pass rfl rfl (by nofun) ?_
                                          refine L.pass rfl rfl (by nofun) ?_
                                          refine L.pass rfl rfl (by nofun) ?_
                                          refine L.pass rfl rfl (by nofun) ?_
                                          refine L.y rfl (Y.pickF rfl rfl) ?_
                                          refine L.nil ?_
                                          exact E.joinJ ⟨false, rfl, rfl, h⟩ ⟨rfl, rfl, rfl, rfl, rfl, trivial⟩ (fun _ hw => hw)
                                      ·
                                        rintro _ _ ⟨gb12, rfl, rfl, h⟩
                                        rw [m80_quirref_PactStep_K13] at h
                                        rcases gb12 with _ | _
                                        ·
                                          replace h := iteF h
                                          refine L.y rfl (Y.assign rfl) ?_
                                          refine L.nil ?_
                                          refine E.thenN ?_
                                          refine W.condF rfl ?_
                                          refine W.skip ?_
                                          refine E.blockN ?_
                                          exact E.joinJ ⟨gl4, rfl, rfl, h⟩ ⟨rfl, rfl, trivial⟩ (fun _ hw => hw)
                                        ·
                                          replace h := iteT h
                                          refine L.y rfl (Y.assign rfl) ?_
                                          refine L.nil ?_
                                          refine E.thenN ?_
                                          refine W.condT rfl ?_
                                          refine W.region ?_
                                          refine L.y rfl (Y.move rfl) ?_
                                          refine L.y rfl (Y.move rfl) ?_
                                          refine L.y rfl (Y.nilCheck rfl) ?_
                                          refine L.storeSlM (q := 3) (row := I) (vs := [.int .i64 3]) (j := 0) (u1 := 3) h sz3 rfl rfl rfl rfl rfl (all1 rfl all0) rfl ex4 rfl rfl ?_
                                          intro l6 el6 h
                                          refine L.y rfl (Y.nilCheck rfl) ?_
                                          obtain ⟨x7, ex7, h⟩ := bind1S h
                                          refine L.storeSlM (q := 3) (row := I) (vs := [.int .i64 3]) (j := 0) (u1 := 3) h sz3 rfl rfl rfl rfl rfl (all1 rfl all0) rfl ex7 rfl rfl ?_
                                          intro l8 el8 h
                                          refine L.nil ?_
                                          refine E.blockN ?_
                                          exact E.joinJ ⟨l8, rfl, rfl, h⟩ ⟨rfl, rfl, trivial⟩ (fun _ hw => hw)
                                ·
                                  replace h := iteT h
                                  refine L.cutJ 12 (fun gs D => ∃ (gb13 : Bool), gs = [(2, pt b1 0), (3, pt b2 0), (4, pt b3 0), (5, el gv3 (a1.Who.toNat * 1)), (6, el gv3 (a1.By.toNat * 1)), (172, .bool gb13)] ∧ D = Cls w [] [.obj b3 [.int .i64 0, .slice none 0 0, .slice none 0 0] 111, .obj b2 [.int .i64 a1.Kind, .int .i64 a1.Who, .int .i64 a1.By] 113, .obj b1 [.int .i64 a0.Lead, gv1, gv3] 111, .sl gv1 3 1 (gl2.map I), .sl gv3 3 1 (gl4.map I)] ∧ m80_quirref_PactStep_K14 gl4 a1 x5 a0 gl2 x4 gb13 = some r) ?_ ?_
                                  ·
                                    refine L.y rfl (Y.move rfl) ?_
                                    refine L.take rfl ?_
                                    refine L.y rfl (Y.move rfl) ?_
                                    refine L.take rfl ?_
                                    refine L.y rfl (Y.nilCheck rfl) ?_
                                    refine L.take rfl ?_
                                    refine L.y rfl (Y.loadE1 (u := .int .i64 x4) ag3 rfl (fun w hw => As.at_ (hw.get (i := 4) rfl)) (idx_map ex4)) ?_
                                    refine L.take rfl ?_
                                    refine L.ite h rfl (Y.eql rfl rfl) (fun c21 h => ?_) (fun c21 h => ?_)
                                    ·
                                      refine L.y rfl (Y.pickT rfl rfl) ?_
                                      refine L.y rfl (Y.move rfl) ?_
                                      refine L.take rfl ?_
                                      refine L.y rfl (Y.move rfl) ?_
                                      refine L.take rfl ?_
                                      refine L.y rfl (Y.nilCheck rfl) ?_
                                      refine L.take rfl ?_
                                      refine L.y rfl (Y.loadE1 (u := .int .i64 x5) ag3 rfl (fun w hw => As.at_ (hw.get (i := 4) rfl)) (idx_map ex5)) ?_
                                      refine L.take rfl ?_
                                      refine L.ite h rfl (Y.gtr rfl rfl) (fun c22 h => ?_) (fun c22 h => ?_)
                                      ·
                                        refine L.y rfl (Y.pickT rfl rfl) ?_
                                        refine L.nil ?_
                                        exact E.joinJ ⟨true, rfl, rfl, h⟩ ⟨rfl, rfl, rfl, rfl, rfl, rfl, trivial⟩ (fun _ hw => hw)
                                      ·
                                        refine L.y rfl (Y.pickT rfl rfl) ?_
                                        refine L.nil ?_
                                        exact E.joinJ ⟨false, rfl, rfl, h⟩ ⟨rfl, rfl, rfl, rfl, rfl, rfl, trivial⟩ (fun _ hw => hw)
                                    ·
                                      refine L.y rfl (Y.pickT rfl rfl) ?_
                                      refine L.y rfl (Y.move rfl) ?_
                                      refine L.pass rfl rfl (by nofun) ?_
                                      refine L.pass rfl rfl (by nofun) ?_
                                      refine L.pass rfl rfl (by nofun) ?_
                                      refine L.pass rfl rfl (by nofun) ?_
                                      refine L.y rfl (Y.pickF rfl rfl) ?_
                                      refine L.nil ?_
                                      exact E.joinJ ⟨false, rfl, rfl, h⟩ ⟨rfl, rfl, rfl, rfl, rfl, rfl, trivial⟩ (fun _ hw => hw)
                                  ·
                                    rintro _ _ ⟨gb13, rfl, rfl, h⟩
                                    rw [m80_quirref_PactStep_K14] at h
                                    rcases gb13 with _ | _
                                    ·
                                      replace h := iteF h
                                      refine L.y rfl (Y.assign rfl) ?_
                                      refine L.nil ?_
                                      refine E.thenN ?_
                                      refine W.condF rfl ?_
                                      refine W.seq ?_
                                      refine W.region ?_
                                      refine L.cutJ 10 (fun gs D => ∃ (gb14 : Bool), gs = [(2, pt b1 0), (4, pt b3 0), (5, el gv3 (a1.Who.toNat * 1)), (6, el gv3 (a1.By.toNat * 1)), (188, .bool gb14)] ∧ D = Cls w [] [.obj b3 [.int .i64 0, .slice none 0 0, .slice none 0 0] 111, .obj b1 [.int .i64 a0.Lead, gv1, gv3] 111, .sl gv1 3 1 (gl2.map I), .sl gv3 3 1 (gl4.map I)] ∧ m80_quirref_PactStep_K15 x4 x5 gl4 a1 a0 gl2 gb14 = some r) ?_ ?_
                                      ·
                                        refine L.y rfl (Y.fieldP fd113_0 rfl) ?_
                                        refine L.y rfl (Y.loadP (i := 1) ag3 rfl rfl rfl) ?_
                                        refine L.ite h rfl (Y.eql rfl rfl) (fun c18 h => ?_) (fun c18 h => ?_)
                                        ·
                                          refine L.y rfl (Y.move rfl) ?_
                                          refine L.take rfl ?_
                                          refine L.y rfl (Y.fieldP fd113_1 rfl) ?_
                                          refine L.take rfl ?_
                                          refine L.y rfl (Y.loadP (i := 1) ag3 rfl rfl rfl) ?_
                                          refine L.take rfl ?_
                                          refine L.y rfl (Y.fieldP fd113_2 rfl) ?_
                                          refine L.take rfl ?_
                                          refine L.y rfl (Y.loadP (i := 1) ag3 rfl rfl rfl) ?_
                                          refine L.take rfl ?_
                                          refine L.ite h rfl (Y.neq rfl rfl) (fun c19 h => ?_) (fun c19 h => ?_)
                                          ·
                                            refine L.y rfl (Y.pickT rfl rfl) ?_
                                            refine L.nil ?_
                                            exact E.joinJ ⟨true, rfl, rfl, h⟩ ⟨rfl, rfl, rfl, rfl, rfl, trivial⟩ (fun _ hw => hw.sel [0, 2, 3, 4] (by decide) rfl)
                                          ·
                                            refine L.y rfl (Y.pickT rfl rfl) ?_
                                            refine L.nil ?_
                                            exact E.joinJ ⟨false, rfl, rfl, h⟩ ⟨rfl, rfl, rfl, rfl, rfl, trivial⟩ (fun _ hw => hw.sel [0, 2, 3, 4] (by decide) rfl)
                                        ·
                                          refine L.y rfl (Y.move rfl) ?_
                                          refine L.pass rfl rfl (by nofun) ?_
                                          refine L.pass rfl rfl (by nofun) ?_
                                          refine L.pass rfl rfl (by nofun) ?_
                                          refine L.pass rfl rfl (by nofun) ?_
                                          refine L.pass rfl rfl (by nofun) ?_
                                          refine L.y rfl (Y.pickF rfl rfl) ?_
                                          refine L.nil ?_
                                          exact E.joinJ ⟨false, rfl, rfl, h⟩ ⟨rfl, rfl, rfl, rfl, rfl, trivial⟩ (fun _ hw => hw.sel [0, 2, 3, 4] (by decide) rfl)
                                      ·
                                        rintro _ _ ⟨gb14, rfl, rfl, h⟩
                                        rw [m80_quirref_PactStep_K15] at h
                                        rcases gb14 with _ | _
                                        ·
                                          replace h := iteF h
                                          refine L.y rfl (Y.move rfl) ?_
                                          refine L.pass rfl rfl (by nofun) ?_
                                          refine L.pass rfl rfl (by nofun) ?_
                                          refine L.pass rfl rfl (by nofun) ?_
                                          refine L.pass rfl rfl (by nofun) ?_
                                          refine L.y rfl (Y.pickF rfl rfl) ?_
                                          refine L.y rfl (Y.move rfl) ?_
                                          refine L.pass rfl rfl (by nofun) ?_
                                          refine L.pass rfl rfl (by nofun) ?_
                                          refine L.pass rfl rfl (by nofun) ?_
                                          refine L.pass rfl rfl (by nofun) ?_
                                          refine L.y rfl (Y.pickF rfl rfl) ?_
                                          refine L.y rfl (Y.assign rfl) ?_
                                          refine L.nil ?_
                                          refine E.thenN ?_
                                          refine W.condF rfl ?_
                                          refine W.skip ?_
                                          refine E.blockN ?_
                                          exact E.joinJ ⟨gl4, rfl, rfl, h⟩ ⟨rfl, rfl, trivial⟩ (fun _ hw => hw)
                                        ·
                                          replace h := iteT h
                                          refine L.cutJ 12 (fun gs D => ∃ (gb15 : Bool), gs = [(2, pt b1 0), (4, pt b3 0), (5, el gv3 (a1.Who.toNat * 1)), (6, el gv3 (a1.By.toNat * 1)), (200, .bool gb15)] ∧ D = Cls w [] [.obj b3 [.int .i64 0, .slice none 0 0, .slice none 0 0] 111, .obj b1 [.int .i64 a0.Lead, gv1, gv3] 111, .sl gv1 3 1 (gl2.map I), .sl gv3 3 1 (gl4.map I)] ∧ m80_quirref_PactStep_K16 gl4 a1 a0 gl2 gb15 = some r) ?_ ?_
                                          ·
                                            refine L.y rfl (Y.move rfl) ?_
                                            refine L.take rfl ?_
                                            refine L.y rfl (Y.move rfl) ?_
                                            refine L.take rfl ?_
                                            refine L.y rfl (Y.nilCheck rfl) ?_
                                            refine L.take rfl ?_
                                            refine L.y rfl (Y.loadE1 (u := .int .i64 x4) ag3 rfl (fun w hw => As.at_ (hw.get (i := 3) rfl)) (idx_map ex4)) ?_
                                            refine L.take rfl ?_
                                            refine L.ite h rfl (Y.eql rfl rfl) (fun c16 h => ?_) (fun c16 h => ?_)
                                            ·
                                              refine L.y rfl (Y.pickT rfl rfl) ?_
                                              refine L.y rfl (Y.move rfl) ?_
                                              refine L.take rfl ?_
                                              refine L.y rfl (Y.move rfl) ?_
                                              refine L.take rfl ?_
                                              refine L.y rfl (Y.nilCheck rfl) ?_
                                              refine L.take rfl ?_
                                              refine L.y rfl (Y.loadE1 (u := .int .i64 x5) ag3 rfl (fun w hw => As.at_ (hw.get (i := 3) rfl)) (idx_map ex5)) ?_
                                              refine L.take rfl ?_
                                              refine L.ite h rfl (Y.eql rfl rfl) (fun c17 h => ?_) (fun c17 h => ?_)
                                              ·
                                                refine L.y rfl (Y.pickT rfl rfl) ?_
                                                refine L.nil ?_
                                                exact E.joinJ ⟨true, rfl, rfl, h⟩ ⟨rfl, rfl, rfl, rfl, rfl, trivial⟩ (fun _ hw => hw)
                                              ·
                                                refine L.y rfl (Y.pickT rfl rfl) ?_
                                                refine L.nil ?_
                                                exact E.joinJ ⟨false, rfl, rfl, h⟩ ⟨rfl, rfl, rfl, rfl, rfl, trivial⟩ (fun _ hw => hw)
                                            ·
                                              refine L.y rfl (Y.pickT rfl rfl) ?_
                                              refine L.y rfl (Y.move rfl) ?_
                                              refine L.pass rfl rfl (by nofun) ?_
                                              refine L.pass rfl rfl (by nofun) ?_
                                              refine L.pass rfl rfl (by nofun) ?_
                                              refine L.pass rfl rfl (by nofun) ?_
                                              refine L.y rfl (Y.pickF rfl rfl) ?_
                                              refine L.nil ?_
                                              exact E.joinJ ⟨false, rfl, rfl, h⟩ ⟨rfl, rfl, rfl, rfl, rfl, trivial⟩ (fun _ hw => hw)
                                          ·
                                            rintro _ _ ⟨gb15, rfl, rfl, h⟩
                                            rw [m80_quirref_PactStep_K16] at h
                                            rcases gb15 with _ | _
                                            ·
                                              replace h := iteF h
                                              refine L.y rfl (Y.assign rfl) ?_
                                              refine L.nil ?_
                                              refine E.thenN ?_
                                              refine W.condF rfl ?_
                                              refine W.skip ?_
                                              refine E.blockN ?_
                                              exact E.joinJ ⟨gl4, rfl, rfl, h⟩ ⟨rfl, rfl, trivial⟩ (fun _ hw => hw)
                                            ·
                                              replace h := iteT h
                                              refine L.y rfl (Y.assign rfl) ?_
                                              refine L.nil ?_
                                              refine E.thenN ?_
                                              refine W.condT rfl ?_
                                              refine W.region ?_
                                              refine L.y rfl (Y.move rfl) ?_
                                              refine L.y rfl (Y.move rfl) ?_
                                              refine L.y rfl (Y.nilCheck rfl) ?_
                                              refine L.storeSlM (q := 3) (row := I) (vs := [.int .i64 3]) (j := 0) (u1 := 3) h sz3 rfl rfl rfl rfl rfl (all1 rfl all0) rfl ex4 rfl rfl ?_
                                              intro l13 el13 h
                                              refine L.y rfl (Y.nilCheck rfl) ?_
                                              obtain ⟨x14, ex14, h⟩ := bind1S h
                                              refine L.storeSlM (q := 3) (row := I) (vs := [.int .i64 3]) (j := 0) (u1 := 3) h sz3 rfl rfl rfl rfl rfl (all1 rfl all0) rfl ex14 rfl rfl ?_
                                              intro l15 el15 h
                                              refine L.nil ?_
                                              refine E.blockN ?_
                                              exact E.joinJ ⟨l15, rfl, rfl, h⟩ ⟨rfl, rfl, trivial⟩ (fun _ hw => hw)
                                    ·
                                      replace h := iteT h
                                      refine L.y rfl (Y.assign rfl) ?_
                                      refine L.nil ?_
                                      refine E.thenN ?_
                                      refine W.condT rfl ?_
                                      refine W.region ?_
                                      refine L.y rfl (Y.move rfl) ?_
                                      refine L.y rfl (Y.move rfl) ?_
                                      refine L.y rfl (Y.nilCheck rfl) ?_
                                      refine L.y rfl (Y.loadE1 (u := .int .i64 x5) ag3 rfl (fun w hw => As.at_ (hw.get (i := 4) rfl)) (idx_map ex5)) ?_
                                      refine L.y rfl (Y.nilCheck rfl) ?_
                                      refine L.storeSlM (q := 4) (row := I) (vs := [.int .i64 x5]) (j := 0) (u1 := x5) h sz3 rfl rfl rfl rfl rfl (all1 rfl all0) rfl ex4 rfl rfl ?_
                                      intro l20 el20 h
                                      refine L.nil ?_
                                      refine E.blockN ?_
                                      exact E.joinJ ⟨l20, rfl, rfl, h⟩ ⟨rfl, rfl, trivial⟩ (fun _ hw => hw.sel [0, 2, 3, 4] (by decide) rfl)
                            ·
                              replace h := iteT h
                              refine L.y rfl (Y.move rfl) ?_
                              refine L.take rfl ?_
                              refine L.y rfl (Y.move rfl) ?_
                              refine L.take rfl ?_
                              refine L.y rfl (Y.not rfl) ?_
                              refine L.y rfl (Y.pickT rfl rfl) ?_
                              refine L.y rfl (Y.assign rfl) ?_
                              refine L.nil ?_
                              refine E.thenN ?_
                              refine W.condT rfl ?_
                              refine W.region ?_
                              refine L.y rfl (Y.move rfl) ?_
                              refine L.y rfl (Y.fieldP fd111_0 rfl) ?_
                              refine L.y rfl (Y.loadP (i := 2) ag3 rfl rfl rfl) ?_
                              refine L.m (V := fun x25 => .int .i64 x25) h rfl (Y.addM rfl rfl) (fun x25 ex25 h => ?_)
                              refine L.y rfl (Y.nilCheck rfl) ?_
                              refine L.storeSlM (q := 4) (row := I) (vs := [.int .i64 x25]) (j := 0) (u1 := x25) h sz3 rfl rfl rfl rfl rfl (all1 rfl all0) rfl ex4 rfl rfl ?_
                              intro l26 el26 h
                              refine L.nil ?_
                              refine E.blockN ?_
                              exact E.joinJ ⟨l26, rfl, rfl, h⟩ ⟨rfl, rfl, trivial⟩ (fun _ hw => hw.sel [0, 2, 3, 4] (by decide) rfl)
                ·
                  replace h := iteT h
                  refine L.y rfl (Y.assign rfl) ?_
                  refine L.nil ?_
                  refine E.thenN ?_
                  refine W.condT rfl ?_
                  refine W.region ?_
                  refine L.y rfl (Y.move rfl) ?_
                  refine L.y rfl (Y.nilCheck rfl) ?_
                  refine L.storeSlM (q := 4) (row := I) (vs := [.int .i64 3]) (j := 0) (u1 := 3) h sz3 rfl rfl rfl rfl rfl (all1 rfl all0) rfl ex4 rfl rfl ?_
                  intro l35 el35 h
                  refine L.nil ?_
                  refine E.blockN ?_
                  exact E.joinJ ⟨l35, rfl, rfl, h⟩ ⟨rfl, rfl, trivial⟩ (fun _ hw => hw.sel [0, 2, 3, 4] (by decide) rfl)
            ·
              replace h := iteT h
              refine L.y rfl (Y.assign rfl) ?_
              refine L.nil ?_
              refine E.thenN ?_
              refine W.condT rfl ?_
              refine W.region ?_
              refine L.y rfl (Y.move rfl) ?_
              refine L.y rfl (Y.nilCheck rfl) ?_
              refine L.storeSlM (q := 4) (row := I) (vs := [.int .i64 1]) (j := 0) (u1 := 1) h sz3 rfl rfl rfl rfl rfl (all1 rfl all0) rfl ex4 rfl rfl ?_
              intro l38 el38 h
              refine L.nil ?_
              refine E.blockN ?_
              exact E.joinJ ⟨l38, rfl, rfl, h⟩ ⟨rfl, rfl, trivial⟩ (fun _ hw => hw.sel [0, 2, 3, 4] (by decide) rfl)
        ·
          rintro _ _ ⟨gl6, rfl, rfl, h⟩
          rw [m80_quirref_PactStep_K3] at h
          refine W.seq ?_
          refine W.region ?_
          refine L.y rfl (Y.loadPW (i := 1) ag111 sz111 rfl rfl rfl) ?_
          refine L.storeC (i := 0) sz111 rfl rfl rfl rfl (fun w hw => (all1 rfl (all1 (As.at_ (hw.get (i := 2) rfl)).one (all1 (As.at_ (hw.get (i := 3) rfl)).one all0)))) rfl (Nat.le_of_ble_eq_true rfl) ?_
          refine L.nil ?_
          refine E.thenN ?_
          refine W.ret ?_
          refine E.retR1 rfl (Rv.cellW (i := 0) ag111 sz111 rfl rfl rfl) (fun w1 hw => ?_)
          obtain rfl := Option.some.inj h
          exact ⟨_, _, rfl, ⟨_, _, rfl, rfl⟩, hw.sel [2, 3] (by decide) rfl⟩
      ·
        replace h := iteT h
        refine W.seqJ (fun gs D => ∃ (gx16 : Int) (gl17 : (List Int)) (gl18 : (List Int)), gs = [(2, pt b1 0), (4, pt b3 0)] ∧ D = Cls w [] [.obj b3 [.int .i64 0, .slice none 0 0, .slice none 0 0] 111, .obj b1 [.int .i64 gx16, gv1, gv3] 111, .sl gv1 3 1 (gl17.map I), .sl gv3 3 1 (gl18.map I)] ∧ m80_quirref_PactStep_K17 gx16 gl17 gl18 = some r) ?_ ?_
        ·
          refine W.block ?_
          refine W.seq ?_
          refine W.region ?_
          refine L.cutJ 9 (fun gs D => ∃ (gb19 : Bool), gs = [(2, pt b1 0), (3, pt b2 0), (4, pt b3 0), (5, el gv3 (a1.Who.toNat * 1)), (6, el gv3 (a1.By.toNat * 1)), (7, .bool true), (38, .bool gb19)] ∧ D = Cls w [] [.obj b3 [.int .i64 0, .slice none 0 0, .slice none 0 0] 111, .obj b2 [.int .i64 a1.Kind, .int .i64 a1.Who, .int .i64 a1.By] 113, .obj b1 [.int .i64 a0.Lead, gv1, gv3] 111, .sl gv1 3 1 (gl2.map I), .sl gv3 3 1 (gl4.map I)] ∧ m80_quirref_PactStep_K18 gl4 a1 a0 gl2 x4 x5 gb19 = some r) ?_ ?_
          ·
            refine L.y rfl (Y.fieldP fd113_0 rfl) ?_
            refine L.y rfl (Y.loadP (i := 1) ag3 rfl rfl rfl) ?_
            refine L.ite h rfl (Y.eql rfl rfl) (fun c113 h => ?_) (fun c113 h => ?_)
            ·
              refine L.y rfl (Y.move rfl) ?_
              refine L.take rfl ?_
              refine L.y rfl (Y.move rfl) ?_
              refine L.take rfl ?_
              refine L.y rfl (Y.nilCheck rfl) ?_
              refine L.take rfl ?_
              refine L.y rfl (Y.loadE1 (u := .int .i64 x4) ag3 rfl (fun w hw => As.at_ (hw.get (i := 4) rfl)) (idx_map ex4)) ?_
              refine L.take rfl ?_
              refine L.ite h rfl (Y.eql rfl rfl) (fun c114 h => ?_) (fun c114 h => ?_)
              ·
                refine L.y rfl (Y.pickT rfl rfl) ?_
                refine L.nil ?_
                exact E.joinJ ⟨true, rfl, rfl, h⟩ ⟨rfl, rfl, rfl, rfl, rfl, rfl, rfl, trivial⟩ (fun _ hw => hw)
              ·
                refine L.y rfl (Y.pickT rfl rfl) ?_
                refine L.nil ?_
                exact E.joinJ ⟨false, rfl, rfl, h⟩ ⟨rfl, rfl, rfl, rfl, rfl, rfl, rfl, trivial⟩ (fun _ hw => hw)
            ·
              refine L.y rfl (Y.move rfl) ?_
              refine L.pass rfl rfl (by nofun) ?_
              refine L.pass rfl rfl (by nofun) ?_
              refine L.pass rfl rfl (by nofun) ?_
              refine L.pass rfl rfl (by nofun) ?_
              refine L.y rfl (Y.pickF rfl rfl) ?_
              refine L.nil ?_
              exact E.joinJ ⟨false, rfl, rfl, h⟩ ⟨rfl, rfl, rfl, rfl, rfl, rfl, rfl, trivial⟩ (fun _ hw => hw)
          ·
            rintro _ _ ⟨gb19, rfl, rfl, h⟩
            rw [m80_quirref_PactStep_K18] at h
            rcases gb19 with _ | _
            ·
              replace h := iteF h
              refine L.y rfl (Y.assign rfl) ?_
              refine L.nil ?_
              refine E.thenN ?_
              refine W.condF rfl ?_
              refine W.seq ?_
              refine W.region ?_
              refine L.cutJ 9 (fun gs D => ∃ (gb20 : Bool), gs = [(2, pt b1 0), (3, pt b2 0), (4, pt b3 0), (5, el gv3 (a1.Who.toNat * 1)), (6, el gv3 (a1.By.toNat * 1)), (7, .bool true), (50, .bool gb20)] ∧ D = Cls w [] [.obj b3 [.int .i64 0, .slice none 0 0, .slice none 0 0] 111, .obj b2 [.int .i64 a1.Kind, .int .i64 a1.Who, .int .i64 a1.By] 113, .obj b1 [.int .i64 a0.Lead, gv1, gv3] 111, .sl gv1 3 1 (gl2.map I), .sl gv3 3 1 (gl4.map I)] ∧ m80_quirref_PactStep_K19 gl4 a1 a0 gl2 x4 x5 gb20 = some r) ?_ ?_
              ·
                refine L.y rfl (Y.fieldP fd113_0 rfl) ?_
                refine L.y rfl (Y.loadP (i := 1) ag3 rfl rfl rfl) ?_
                refine L.ite h rfl (Y.eql rfl rfl) (fun c110 h => ?_) (fun c110 h => ?_)
                ·
                  refine L.y rfl (Y.move rfl) ?_
                  refine L.take rfl ?_
                  refine L.y rfl (Y.move rfl) ?_
                  refine L.take rfl ?_
                  refine L.y rfl (Y.nilCheck rfl) ?_
                  refine L.take rfl ?_
                  refine L.y rfl (Y.loadE1 (u := .int .i64 x4) ag3 rfl (fun w hw => As.at_ (hw.get (i := 4) rfl)) (idx_map ex4)) ?_
                  refine L.take rfl ?_
                  refine L.ite h rfl (Y.eql rfl rfl) (fun c111 h => ?_) (fun c111 h => ?_)
                  ·
                    refine L.y rfl (Y.pickT rfl rfl) ?_
                    refine L.nil ?_
                    exact E.joinJ ⟨true, rfl, rfl, h⟩ ⟨rfl, rfl, rfl, rfl, rfl, rfl, rfl, trivial⟩ (fun _ hw => hw)
                  ·
                    refine L.y rfl (Y.pickT rfl rfl) ?_
                    refine L.nil ?_
                    exact E.joinJ ⟨false, rfl, rfl, h⟩ ⟨rfl, rfl, rfl, rfl, rfl, rfl, rfl, trivial⟩ (fun _ hw => hw)
                ·
                  refine L.y rfl (Y.move rfl) ?_
                  refine L.pass rfl rfl (by nofun) ?_
                  refine L.pass rfl rfl (by nofun) ?_
                  refine L.pass rfl rfl (by nofun) ?_
                  refine L.pass rfl rfl (by nofun) ?_
                  refine L.y rfl (Y.pickF rfl rfl) ?_
                  refine L.nil ?_
                  exact E.joinJ ⟨false, rfl, rfl, h⟩ ⟨rfl, rfl, rfl, rfl, rfl, rfl, rfl, trivial⟩ (fun _ hw => hw)
              ·
                rintro _ _ ⟨gb20, rfl, rfl, h⟩
                rw [m80_quirref_PactStep_K19] at h
                rcases gb20 with _ | _
                ·
                  replace h := iteF h
                  refine L.y rfl (Y.assign rfl) ?_
                  refine L.nil ?_
                  refine E.thenN ?_
                  refine W.condF rfl ?_
                  refine W.seq ?_
                  refine W.region ?_
                  refine L.cutJ 12 (fun gs D => ∃ (gb21 : Bool), gs = [(2, pt b1 0), (3, pt b2 0), (4, pt b3 0), (5, el gv3 (a1.Who.toNat * 1)), (6, el gv3 (a1.By.toNat * 1)), (7, .bool true), (65, .bool gb21)] ∧ D = Cls w [] [.obj b3 [.int .i64 0, .slice none 0 0, .slice none 0 0] 111, .obj b2 [.int .i64 a1.Kind, .int .i64 a1.Who, .int .i64 a1.By] 113, .obj b1 [.int .i64 a0.Lead, gv1, gv3] 111, .sl gv1 3 1 (gl2.map I), .sl gv3 3 1 (gl4.map I)] ∧ m80_quirref_PactStep_K20 gl2 a1 a0 gl4 x4 x5 gb21 = some r) ?_ ?_
                  ·
                    refine L.y rfl (Y.fieldP fd113_0 rfl) ?_
                    refine L.y rfl (Y.loadP (i := 1) ag3 rfl rfl rfl) ?_
                    refine L.ite h rfl (Y.eql rfl rfl) (fun c107 h => ?_) (fun c107 h => ?_)
                    ·
                      refine L.y rfl (Y.move rfl) ?_
                      refine L.take rfl ?_
                      refine L.y rfl (Y.move rfl) ?_
                      refine L.y rfl (Y.pickT rfl rfl) ?_
                      refine L.y rfl (Y.move rfl) ?_
                      refine L.take rfl ?_
                      refine L.y rfl (Y.move rfl) ?_
                      refine L.take rfl ?_
                      refine L.y rfl (Y.nilCheck rfl) ?_
                      refine L.take rfl ?_
                      refine L.y rfl (Y.loadE1 (u := .int .i64 x4) ag3 rfl (fun w hw => As.at_ (hw.get (i := 4) rfl)) (idx_map ex4)) ?_
                      refine L.take rfl ?_
                      refine L.ite h rfl (Y.eql rfl rfl) (fun c108 h => ?_) (fun c108 h => ?_)
                      ·
                        refine L.y rfl (Y.pickT rfl rfl) ?_
                        refine L.nil ?_
                        exact E.joinJ ⟨true, rfl, rfl, h⟩ ⟨rfl, rfl, rfl, rfl, rfl, rfl, rfl, trivial⟩ (fun _ hw => hw)
                      ·
                        refine L.y rfl (Y.pickT rfl rfl) ?_
                        refine L.nil ?_
                        exact E.joinJ ⟨false, rfl, rfl, h⟩ ⟨rfl, rfl, rfl, rfl, rfl, rfl, rfl, trivial⟩ (fun _ hw => hw)
                    ·
                      refine L.y rfl (Y.move rfl) ?_
                      refine L.pass rfl rfl (by nofun) ?_
                      refine L.y rfl (Y.pickF rfl rfl) ?_
                      refine L.y rfl (Y.move rfl) ?_
                      refine L.pass rfl rfl (by nofun) ?_
                      refine L.pass rfl rfl (by nofun) ?_
                      refine L.pass rfl rfl (by nofun) ?_
                      refine L.pass rfl rfl (by nofun) ?_
                      refine L.y rfl (Y.pickF rfl rfl) ?_
                      refine L.nil ?_
                      exact E.joinJ ⟨false, rfl, rfl, h⟩ ⟨rfl, rfl, rfl, rfl, rfl, rfl, rfl, trivial⟩ (fun _ hw => hw)
                  ·
                    rintro _ _ ⟨gb21, rfl, rfl, h⟩
                    rw [m80_quirref_PactStep_K20] at h
                    rcases gb21 with _ | _
                    ·
                      replace h := iteF h
                      refine L.y rfl (Y.assign rfl) ?_
                      refine L.nil ?_
                      refine E.thenN ?_
                      refine W.condF rfl ?_
                      refine W.seq ?_
                      refine W.region ?_
                      refine L.cutJ 12 (fun gs D => ∃ (gb22 : Bool), gs = [(2, pt b1 0), (3, pt b2 0), (4, pt b3 0), (5, el gv3 (a1.Who.toNat * 1)), (6, el gv3 (a1.By.toNat * 1)), (7, .bool true), (83, .bool gb22)] ∧ D = Cls w [] [.obj b3 [.int .i64 0, .slice none 0 0, .slice none 0 0] 111, .obj b2 [.int .i64 a1.Kind, .int .i64 a1.Who, .int .i64 a1.By] 113, .obj b1 [.int .i64 a0.Lead, gv1, gv3] 111, .sl gv1 3 1 (gl2.map I), .sl gv3 3 1 (gl4.map I)] ∧ m80_quirref_PactStep_K21 gl2 a1 a0 gl4 x4 x5 gb22 = some r) ?_ ?_
                      ·
                        refine L.y rfl (Y.fieldP fd113_0 rfl) ?_
                        refine L.y rfl (Y.loadP (i := 1) ag3 rfl rfl rfl) ?_
                        refine L.ite h rfl (Y.eql rfl rfl) (fun c103 h => ?_) (fun c103 h => ?_)
                        ·
                          refine L.y rfl (Y.move rfl) ?_
                          refine L.take rfl ?_
                          refine L.y rfl (Y.move rfl) ?_
                          refine L.y rfl (Y.pickT rfl rfl) ?_
                          refine L.y rfl (Y.move rfl) ?_
                          refine L.take rfl ?_
                          refine L.y rfl (Y.move rfl) ?_
                          refine L.take rfl ?_
                          refine L.y rfl (Y.nilCheck rfl) ?_
                          refine L.take rfl ?_
                          refine L.y rfl (Y.loadE1 (u := .int .i64 x4) ag3 rfl (fun w hw => As.at_ (hw.get (i := 4) rfl)) (idx_map ex4)) ?_
                          refine L.take rfl ?_
                          refine L.ite h rfl (Y.eql rfl rfl) (fun c104 h => ?_) (fun c104 h => ?_)
                          ·
                            refine L.y rfl (Y.pickT rfl rfl) ?_
                            refine L.nil ?_
                            exact E.joinJ ⟨true, rfl, rfl, h⟩ ⟨rfl, rfl, rfl, rfl, rfl, rfl, rfl, trivial⟩ (fun _ hw => hw)
                          ·
                            refine L.y rfl (Y.pickT rfl rfl) ?_
                            refine L.nil ?_
                            exact E.joinJ ⟨false, rfl, rfl, h⟩ ⟨rfl, rfl, rfl, rfl, rfl, rfl, rfl, trivial⟩ (fun _ hw => hw)
                        ·
                          refine L.y rfl (Y.move rfl) ?_
                          refine L.pass rfl rfl (by nofun) ?_
                          refine L.y rfl (Y.pickF rfl rfl) ?_
                          refine L.y rfl (Y.move rfl) ?_
                          refine L.pass rfl rfl (by nofun) ?_
                          refine L.pass rfl rfl (by nofun) ?_
                          refine L.pass rfl rfl (by nofun) ?_
                          refine L.pass rfl rfl (by nofun) ?_
                          refine L.y rfl (Y.pickF rfl rfl) ?_
                          refine L.nil ?_
                          exact E.joinJ ⟨false, rfl, rfl, h⟩ ⟨rfl, rfl, rfl, rfl, rfl, rfl, rfl, trivial⟩ (fun _ hw => hw)
                      ·
                        rintro _ _ ⟨gb22, rfl, rfl, h⟩
                        rw [m80_quirref_PactStep_K21] at h
                        rcases gb22 with _ | _
                        ·
                          replace h := iteF h
                          refine L.y rfl (Y.move rfl) ?_
                          refine L.pass rfl rfl (by nofun) ?_
                          refine L.pass rfl rfl (by nofun) ?_
                          refine L.pass rfl rfl (by nofun) ?_
                          refine L.pass rfl rfl (by nofun) ?_
                          refine L.pass rfl rfl (by nofun) ?_
                          refine L.pass rfl rfl (by nofun) ?_
                          refine L.pass rfl rfl (by nofun) ?_
                          refine L.y rfl (Y.pickF rfl rfl) ?_
                          refine L.y rfl (Y.assign rfl) ?_
                          refine L.nil ?_
                          refine E.thenN ?_
                          refine W.condF rfl ?_
                          refine W.seqJ (fun gs D => ∃ (gb23 : Bool), gs = [(2, pt b1 0), (3, pt b2 0), (4, pt b3 0), (5, el gv3 (a1.Who.toNat * 1)), (6, el gv3 (a1.By.toNat * 1)), (7, .bool true), (98, .bool gb23)] ∧ D = Cls w [] [.obj b3 [.int .i64 0, .slice none 0 0, .slice none 0 0] 111, .obj b2 [.int .i64 a1.Kind, .int .i64 a1.Who, .int .i64 a1.By] 113, .obj b1 [.int .i64 a0.Lead, gv1, gv3] 111, .sl gv1 3 1 (gl2.map I), .sl gv3 3 1 (gl4.map I)] ∧ m80_quirref_PactStep_K22 gl2 gl4 a1 x4 x5 a0 gb23 = some r) ?_ ?_
                          ·
                            refine W.seq ?_
                            refine W.region ?_
                            refine L.cutJ 11 (fun gs D => ∃ (gb32 : Bool), gs = [(2, pt b1 0), (3, pt b2 0), (4, pt b3 0), (5, el gv3 (a1.Who.toNat * 1)), (6, el gv3 (a1.By.toNat * 1)), (7, .bool true), (109, .bool gb32)] ∧ D = Cls w [] [.obj b3 [.int .i64 0, .slice none 0 0, .slice none 0 0] 111, .obj b2 [.int .i64 a1.Kind, .int .i64 a1.Who, .int .i64 a1.By] 113, .obj b1 [.int .i64 a0.Lead, gv1, gv3] 111, .sl gv1 3 1 (gl2.map I), .sl gv3 3 1 (gl4.map I)] ∧ m80_quirref_PactStep_K32 gl2 gl4 a1 x4 x5 a0 gb32 = some r) ?_ ?_
                            ·
                              refine L.y rfl (Y.fieldP fd113_0 rfl) ?_
                              refine L.y rfl (Y.loadP (i := 1) ag3 rfl rfl rfl) ?_
                              refine L.ite h rfl (Y.eql rfl rfl) (fun c67 h => ?_) (fun c67 h => ?_)
                              ·
                                refine L.y rfl (Y.move rfl) ?_
                                refine L.take rfl ?_
                                refine L.y rfl (Y.move rfl) ?_
                                refine L.y rfl (Y.pickT rfl rfl) ?_
                                refine L.y rfl (Y.move rfl) ?_
                                refine L.take rfl ?_
                                refine L.y rfl (Y.fieldP fd111_1 rfl) ?_
                                refine L.take rfl ?_
                                refine L.y rfl (Y.loadP (i := 2) ag24 rfl rfl rfl) ?_
                                refine L.take rfl ?_
                                obtain ⟨b68, e69, h⟩ := bind1S h
                                refine L.y rfl (Y.does en134 rfl (fun w' hw => (w134_slices_Contains_int gl2 2 gv1 w' _ e69 (As.at_ (hw.get (i := 3) rfl))).mono (fun _ _ h => h.1))) ?_
                                rcases b68 with _ | _
                                ·
                                  replace h := iteF h
                                  refine L.y rfl (Y.pickT rfl rfl) ?_
                                  refine L.nil ?_
                                  exact E.joinJ ⟨false, rfl, rfl, h⟩ ⟨rfl, rfl, rfl, rfl, rfl, rfl, rfl, trivial⟩ (fun _ hw => hw)
                                ·
                                  replace h := iteT h
                                  refine L.y rfl (Y.pickT rfl rfl) ?_
                                  refine L.nil ?_
                                  exact E.joinJ ⟨true, rfl, rfl, h⟩ ⟨rfl, rfl, rfl, rfl, rfl, rfl, rfl, trivial⟩ (fun _ hw => hw)
                              ·
                                refine L.y rfl (Y.move rfl) ?_
                                refine L.pass rfl rfl (by nofun) ?_
                                refine L.y rfl (Y.pickF rfl rfl) ?_
                                refine L.y rfl (Y.move rfl) ?_
                                refine L.pass rfl rfl (by nofun) ?_
                                refine L.pass rfl rfl (by nofun) ?_
                                refine L.pass rfl rfl (by nofun) ?_
                                refine L.y rfl (Y.pickF rfl rfl) ?_
                                refine L.nil ?_
                                exact E.joinJ ⟨false, rfl, rfl, h⟩ ⟨rfl, rfl, rfl, rfl, rfl, rfl, rfl, trivial⟩ (fun _ hw => hw)
                            ·
                              rintro _ _ ⟨gb32, rfl, rfl, h⟩
                              rw [m80_quirref_PactStep_K32] at h
                              rcases gb32 with _ | _
                              ·
                                replace h := iteF h
                                refine L.y rfl (Y.assign rfl) ?_
                                refine L.nil ?_
                                refine E.thenN ?_
                                refine W.condF rfl ?_
                                refine W.region ?_
                                refine L.y rfl (Y.fieldP fd113_0 rfl) ?_
                                refine L.y rfl (Y.loadP (i := 1) ag3 rfl rfl rfl) ?_
                                refine L.ite h rfl (Y.eql rfl rfl) (fun c66 h => ?_) (fun c66 h => ?_)
                                ·
                                  refine L.y rfl (Y.move rfl) ?_
                                  refine L.take rfl ?_
                                  refine L.y rfl (Y.move rfl) ?_
                                  refine L.y rfl (Y.pickT rfl rfl) ?_
                                  refine L.y rfl (Y.assign rfl) ?_
                                  refine L.nil ?_
                                  exact E.joinJ ⟨true, rfl, rfl, h⟩ ⟨rfl, rfl, rfl, rfl, rfl, rfl, rfl, trivial⟩ (fun _ hw => hw)
                                ·
                                  refine L.y rfl (Y.move rfl) ?_
                                  refine L.pass rfl rfl (by nofun) ?_
                                  refine L.y rfl (Y.pickF rfl rfl) ?_
                                  refine L.y rfl (Y.assign rfl) ?_
                                  refine L.nil ?_
                                  exact E.joinJ ⟨false, rfl, rfl, h⟩ ⟨rfl, rfl, rfl, rfl, rfl, rfl, rfl, trivial⟩ (fun _ hw => hw)
                              ·
                                replace h := iteT h
                                refine L.y rfl (Y.assign rfl) ?_
                                refine L.nil ?_
                                refine E.thenN ?_
                                refine W.condT rfl ?_
                                refine W.skip ?_
                                exact E.joinJ ⟨true, rfl, rfl, h⟩ ⟨rfl, rfl, rfl, rfl, rfl, rfl, rfl, trivial⟩ (fun _ hw => hw)
                          ·
                            rintro _ _ ⟨gb23, rfl, rfl, h⟩
                            rw [m80_quirref_PactStep_K22] at h
                            rcases gb23 with _ | _
                            ·
                              replace h := iteF h
                              refine W.condF rfl ?_
                              refine W.seq ?_
                              refine W.region ?_
                              refine L.cutJ 12 (fun gs D => ∃ (gb24 : Bool), gs = [(2, pt b1 0), (3, pt b2 0), (4, pt b3 0), (5, el gv3 (a1.Who.toNat * 1)), (6, el gv3 (a1.By.toNat * 1)), (7, .bool true), (129, .bool gb24)] ∧ D = Cls w [] [.obj b3 [.int .i64 0, .slice none 0 0, .slice none 0 0] 111, .obj b2 [.int .i64 a1.Kind, .int .i64 a1.Who, .int .i64 a1.By] 113, .obj b1 [.int .i64 a0.Lead, gv1, gv3] 111, .sl gv1 3 1 (gl2.map I), .sl gv3 3 1 (gl4.map I)] ∧ m80_quirref_PactStep_K23 gl2 gl4 a1 x4 x5 a0 gb24 = some r) ?_ ?_
                              ·
                                refine L.y rfl (Y.fieldP fd113_0 rfl) ?_
                                refine L.y rfl (Y.loadP (i := 1) ag3 rfl rfl rfl) ?_
                                refine L.ite h rfl (Y.eql rfl rfl) (fun c62 h => ?_) (fun c62 h => ?_)
                                ·
                                  refine L.y rfl (Y.move rfl) ?_
                                  refine L.take rfl ?_
                                  refine L.y rfl (Y.move rfl) ?_
                                  refine L.y rfl (Y.pickT rfl rfl) ?_
                                  refine L.y rfl (Y.move rfl) ?_
                                  refine L.take rfl ?_
                                  refine L.y rfl (Y.fieldP fd111_1 rfl) ?_
                                  refine L.take rfl ?_
                                  refine L.y rfl (Y.loadP (i := 2) ag24 rfl rfl rfl) ?_
                                  refine L.take rfl ?_
                                  obtain ⟨x63, e64, h⟩ := bind1S h
                                  refine L.y rfl (Y.does en135 rfl (fun w' hw => (w135_slices_Min_int gl2 gv1 w' _ e64 (As.at_ (hw.get (i := 3) rfl))).mono (fun _ _ h => h.1))) ?_
                                  refine L.take rfl ?_
                                  refine L.ite h rfl (Y.eql rfl rfl) (fun c65 h => ?_) (fun c65 h => ?_)
                                  ·
                                    refine L.y rfl (Y.pickT rfl rfl) ?_
                                    refine L.nil ?_
                                    exact E.joinJ ⟨true, rfl, rfl, h⟩ ⟨rfl, rfl, rfl, rfl, rfl, rfl, rfl, trivial⟩ (fun _ hw => hw)
                                  ·
                                    refine L.y rfl (Y.pickT rfl rfl) ?_
                                    refine L.nil ?_
                                    exact E.joinJ ⟨false, rfl, rfl, h⟩ ⟨rfl, rfl, rfl, rfl, rfl, rfl, rfl, trivial⟩ (fun _ hw => hw)
                                ·
                                  refine L.y rfl (Y.move rfl) ?_
                                  refine L.pass rfl rfl (by nofun) ?_
                                  refine L.y rfl (Y.pickF rfl rfl) ?_
                                  refine L.y rfl (Y.move rfl) ?_
                                  refine L.pass rfl rfl (by nofun) ?_
                                  refine L.pass rfl rfl (by nofun) ?_
                                  refine L.pass rfl rfl (by nofun) ?_
                                  refine L.pass rfl rfl (by nofun) ?_
                                  refine L.y rfl (Y.pickF rfl rfl) ?_
                                  refine L.nil ?_
                                  exact E.joinJ ⟨false, rfl, rfl, h⟩ ⟨rfl, rfl, rfl, rfl, rfl, rfl, rfl, trivial⟩ (fun _ hw => hw)
                              ·
                                rintro _ _ ⟨gb24, rfl, rfl, h⟩
                                rw [m80_quirref_PactStep_K23] at h
                                rcases gb24 with _ | _
                                ·
                                  replace h := iteF h
                                  refine L.y rfl (Y.assign rfl) ?_
                                  refine L.nil ?_
                                  refine E.thenN ?_
                                  refine W.condF rfl ?_
                                  refine W.seqJ (fun gs D => gs = [(2, pt b1 0), (3, pt b2 0), (4, pt b3 0), (5, el gv3 (a1.Who.toNat * 1)), (6, el gv3 (a1.By.toNat * 1)), (131, .bool false)] ∧ D = Cls w [] [.obj b3 [.int .i64 0, .slice none 0 0, .slice none 0 0] 111, .obj b2 [.int .i64 a1.Kind, .int .i64 a1.Who, .int .i64 a1.By] 113, .obj b1 [.int .i64 a0.Lead, gv1, gv3] 111, .sl gv1 3 1 (gl2.map I), .sl gv3 3 1 (gl4.map I)] ∧ m80_quirref_PactStep_K24 a1 x4 x5 gl4 a0 gl2 = some r) ?_ ?_
                                  ·
                                    refine W.region ?_
                                    refine L.cutJ 9 (fun gs D => ∃ (gb31 : Bool), gs = [(2, pt b1 0), (3, pt b2 0), (4, pt b3 0), (5, el gv3 (a1.Who.toNat * 1)), (6, el gv3 (a1.By.toNat * 1)), (7, .bool true), (140, .bool gb31)] ∧ D = Cls w [] [.obj b3 [.int .i64 0, .slice none 0 0, .slice none 0 0] 111, .obj b2 [.int .i64 a1.Kind, .int .i64 a1.Who, .int .i64 a1.By] 113, .obj b1 [.int .i64 a0.Lead, gv1, gv3] 111, .sl gv1 3 1 (gl2.map I), .sl gv3 3 1 (gl4.map I)] ∧ m80_quirref_PactStep_K31 a1 x4 x5 gl4 a0 gl2 gb31 = some r) ?_ ?_
                                    ·
                                      refine L.y rfl (Y.fieldP fd113_0 rfl) ?_
                                      refine L.y rfl (Y.loadP (i := 1) ag3 rfl rfl rfl) ?_
                                      refine L.ite h rfl (Y.eql rfl rfl) (fun c60 h => ?_) (fun c60 h => ?_)
                                      ·
                                        refine L.y rfl (Y.move rfl) ?_
                                        refine L.take rfl ?_
                                        refine L.y rfl (Y.move rfl) ?_
                                        refine L.take rfl ?_
                                        refine L.y rfl (Y.nilCheck rfl) ?_
                                        refine L.take rfl ?_
                                        refine L.y rfl (Y.loadE1 (u := .int .i64 x4) ag3 rfl (fun w hw => As.at_ (hw.get (i := 4) rfl)) (idx_map ex4)) ?_
                                        refine L.take rfl ?_
                                        refine L.ite h rfl (Y.lss rfl rfl) (fun c61 h => ?_) (fun c61 h => ?_)
                                        ·
                                          refine L.y rfl (Y.pickT rfl rfl) ?_
                                          refine L.nil ?_
                                          exact E.joinJ ⟨true, rfl, rfl, h⟩ ⟨rfl, rfl, rfl, rfl, rfl, rfl, rfl, trivial⟩ (fun _ hw => hw)
                                        ·
                                          refine L.y rfl (Y.pickT rfl rfl) ?_
                                          refine L.nil ?_
                                          exact E.joinJ ⟨false, rfl, rfl, h⟩ ⟨rfl, rfl, rfl, rfl, rfl, rfl, rfl, trivial⟩ (fun _ hw => hw)
                                      ·
                                        refine L.y rfl (Y.move rfl) ?_
                                        refine L.pass rfl rfl (by nofun) ?_
                                        refine L.pass rfl rfl (by nofun) ?_
                                        refine L.pass rfl rfl (by nofun) ?_
                                        refine L.pass rfl rfl (by nofun) ?_
                                        refine L.y rfl (Y.pickF rfl rfl) ?_
                                        refine L.nil ?_
                                        exact E.joinJ ⟨false, rfl, rfl, h⟩ ⟨rfl, rfl, rfl, rfl, rfl, rfl, rfl, trivial⟩ (fun _ hw => hw)
                                    ·
                                      rintro _ _ ⟨gb31, rfl, rfl, h⟩
                                      rw [m80_quirref_PactStep_K31] at h
                                      rcases gb31 with _ | _
                                      ·
                                        replace h := iteF h
                                        refine L.y rfl (Y.move rfl) ?_
                                        refine L.pass rfl rfl (by nofun) ?_
                                        refine L.pass rfl rfl (by nofun) ?_
                                        refine L.y rfl (Y.pickF rfl rfl) ?_
                                        refine L.y rfl (Y.assign rfl) ?_
                                        refine L.nil ?_
                                        exact E.joinJ ⟨rfl, rfl, h⟩ ⟨rfl, rfl, rfl, rfl, rfl, rfl, trivial⟩ (fun _ hw => hw)
                                      ·
                                        replace h := iteT h
                                        refine L.y rfl (Y.move rfl) ?_
                                        refine L.take rfl ?_
                                        refine L.y rfl (Y.move rfl) ?_
                                        refine L.take rfl ?_
                                        refine L.y rfl (Y.not rfl) ?_
                                        refine L.y rfl (Y.pickT rfl rfl) ?_
                                        refine L.y rfl (Y.assign rfl) ?_
                                        refine L.nil ?_
                                        exact E.joinJ ⟨rfl, rfl, h⟩ ⟨rfl, rfl, rfl, rfl, rfl, rfl, trivial⟩ (fun _ hw => hw)
                                  ·
                                    rintro _ _ ⟨rfl, rfl, h⟩
                                    rw [m80_quirref_PactStep_K24] at h
                                    refine W.condF rfl ?_
                                    refine W.seq ?_
                                    refine W.region ?_
                                    refine L.cutJ 10 (fun gs D => ∃ (gb25 : Bool), gs = [(2, pt b1 0), (3, pt b2 0), (4, pt b3 0), (5, el gv3 (a1.Who.toNat * 1)), (6, el gv3 (a1.By.toNat * 1)), (160, .bool gb25)] ∧ D = Cls w [] [.obj b3 [.int .i64 0, .slice none 0 0, .slice none 0 0] 111, .obj b2 [.int .i64 a1.Kind, .int .i64 a1.Who, .int .i64 a1.By] 113, .obj b1 [.int .i64 a0.Lead, gv1, gv3] 111, .sl gv1 3 1 (gl2.map I), .sl gv3 3 1 (gl4.map I)] ∧ m80_quirref_PactStep_K25 x4 x5 gl4 a1 a0 gl2 gb25 = some r) ?_ ?_
                                    ·
                                      refine L.y rfl (Y.fieldP fd113_0 rfl) ?_
                                      refine L.y rfl (Y.loadP (i := 1) ag3 rfl rfl rfl) ?_
                                      refine L.ite h rfl (Y.eql rfl rfl) (fun c58 h => ?_) (fun c58 h => ?_)
                                      ·
                                        refine L.y rfl (Y.move rfl) ?_
                                        refine L.take rfl ?_
                                        refine L.y rfl (Y.fieldP fd113_1 rfl) ?_
                                        refine L.take rfl ?_
                                        refine L.y rfl (Y.loadP (i := 1) ag3 rfl rfl rfl) ?_
                                        refine L.take rfl ?_
                                        refine L.y rfl (Y.fieldP fd113_2 rfl) ?_
                                        refine L.take rfl ?_
                                        refine L.y rfl (Y.loadP (i := 1) ag3 rfl rfl rfl) ?_
                                        refine L.take rfl ?_
                                        refine L.ite h rfl (Y.neq rfl rfl) (fun c59 h => ?_) (fun c59 h => ?_)
                                        ·
                                          refine L.y rfl (Y.pickT rfl rfl) ?_
                                          refine L.nil ?_
                                          exact E.joinJ ⟨true, rfl, rfl, h⟩ ⟨rfl, rfl, rfl, rfl, rfl, rfl, trivial⟩ (fun _ hw => hw)
                                        ·
                                          refine L.y rfl (Y.pickT rfl rfl) ?_
                                          refine L.nil ?_
                                          exact E.joinJ ⟨false, rfl, rfl, h⟩ ⟨rfl, rfl, rfl, rfl, rfl, rfl, trivial⟩ (fun _ hw => hw)
                                      ·
                                        refine L.y rfl (Y.move rfl) ?_
                                        refine L.pass rfl rfl (by nofun) ?_
                                        refine L.pass rfl rfl (by nofun) ?_
                                        refine L.pass rfl rfl (by nofun) ?_
                                        refine L.pass rfl rfl (by nofun) ?_
                                        refine L.pass rfl rfl (by nofun) ?_
                                        refine L.y rfl (Y.pickF rfl rfl) ?_
                                        refine L.nil ?_
                                        exact E.joinJ ⟨false, rfl, rfl, h⟩ ⟨rfl, rfl, rfl, rfl, rfl, rfl, trivial⟩ (fun _ hw => hw)
                                    ·
                                      rintro _ _ ⟨gb25, rfl, rfl, h⟩
                                      rw [m80_quirref_PactStep_K25] at h
                                      rcases gb25 with _ | _
                                      ·
                                        replace h := iteF h
                                        refine L.y rfl (Y.move rfl) ?_
                                        refine L.pass rfl rfl (by nofun) ?_
                                        refine L.pass rfl rfl (by nofun) ?_
                                        refine L.pass rfl rfl (by nofun) ?_
                                        refine L.pass rfl rfl (by nofun) ?_
                                        refine L.y rfl (Y.pickF rfl rfl) ?_
                                        refine L.y rfl (Y.move rfl) ?_
                                        refine L.pass rfl rfl (by nofun) ?_
                                        refine L.pass rfl rfl (by nofun) ?_
                                        refine L.pass rfl rfl (by nofun) ?_
                                        refine L.pass rfl rfl (by nofun) ?_
                                        refine L.y rfl (Y.pickF rfl rfl) ?_
                                        refine L.y rfl (Y.assign rfl) ?_
                                        refine L.nil ?_
                                        refine E.thenN ?_
                                        refine W.condF rfl ?_
                                        refine W.seq ?_
                                        refine W.region ?_
                                        refine L.cutJ 10 (fun gs D => ∃ (gb26 : Bool), gs = [(2, pt b1 0), (4, pt b3 0), (5, el gv3 (a1.Who.toNat * 1)), (6, el gv3 (a1.By.toNat * 1)), (188, .bool gb26)] ∧ D = Cls w [] [.obj b3 [.int .i64 0, .slice none 0 0, .slice none 0 0] 111, .obj b1 [.int .i64 a0.Lead, gv1, gv3] 111, .sl gv1 3 1 (gl2.map I), .sl gv3 3 1 (gl4.map I)] ∧ m80_quirref_PactStep_K26 x4 x5 gl4 a1 a0 gl2 gb26 = some r) ?_ ?_
                                        ·
                                          refine L.y rfl (Y.fieldP fd113_0 rfl) ?_
                                          refine L.y rfl (Y.loadP (i := 1) ag3 rfl rfl rfl) ?_
                                          refine L.ite h rfl (Y.eql rfl rfl) (fun c46 h => ?_) (fun c46 h => ?_)
                                          ·
                                            refine L.y rfl (Y.move rfl) ?_
                                            refine L.take rfl ?_
                                            refine L.y rfl (Y.fieldP fd113_1 rfl) ?_
                                            refine L.take rfl ?_
                                            refine L.y rfl (Y.loadP (i := 1) ag3 rfl rfl rfl) ?_
                                            refine L.take rfl ?_
                                            refine L.y rfl (Y.fieldP fd113_2 rfl) ?_
                                            refine L.take rfl ?_
                                            refine L.y rfl (Y.loadP (i := 1) ag3 rfl rfl rfl) ?_
                                            refine L.take rfl ?_
                                            refine L.ite h rfl (Y.neq rfl rfl) (fun c47 h => ?_) (fun c47 h => ?_)
                                            ·
                                              refine L.y rfl (Y.pickT rfl rfl) ?_
                                              refine L.nil ?_
                                              exact E.joinJ ⟨true, rfl, rfl, h⟩ ⟨rfl, rfl, rfl, rfl, rfl, trivial⟩ (fun _ hw => hw.sel [0, 2, 3, 4] (by decide) rfl)
                                            ·
                                              refine L.y rfl (Y.pickT rfl rfl) ?_
                                              refine L.nil ?_
                                              exact E.joinJ ⟨false, rfl, rfl, h⟩ ⟨rfl, rfl, rfl, rfl, rfl, trivial⟩ (fun _ hw => hw.sel [0, 2, 3, 4] (by decide) rfl)
                                          ·
                                            refine L.y rfl (Y.move rfl) ?_
                                            refine L.pass rfl rfl (by nofun) ?_
                                            refine L.pass rfl rfl (by nofun) ?_
                                            refine L.pass rfl rfl (by nofun) ?_
                                            refine L.pass rfl rfl (by nofun) ?_
                                            refine L.pass rfl rfl (by nofun) ?_
                                            refine L.y rfl (Y.pickF rfl rfl) ?_
                                            refine L.nil ?_
                                            exact E.joinJ ⟨false, rfl, rfl, h⟩ ⟨rfl, rfl, rfl, rfl, rfl, trivial⟩ (fun _ hw => hw.sel [0, 2, 3, 4] (by decide) rfl)
                                        ·
                                          rintro _ _ ⟨gb26, rfl, rfl, h⟩
                                          rw [m80_quirref_PactStep_K26] at h
                                          rcases gb26 with _ | _
                                          ·
                                            replace h := iteF h
                                            refine L.y rfl (Y.move rfl) ?_
                                            refine L.pass rfl rfl (by nofun) ?_
                                            refine L.pass rfl rfl (by nofun) ?_
                                            refine L.pass rfl rfl (by nofun) ?_
                                            refine L.pass rfl rfl (by nofun) ?_
                                            refine L.y rfl (Y.pickF rfl rfl) ?_
                                            refine L.y rfl (Y.move rfl) ?_
                                            refine L.pass rfl rfl (by nofun) ?_
                                            refine L.pass rfl rfl (by nofun) ?_
                                            refine L.pass rfl rfl (by nofun) ?_
                                            refine L.pass rfl rfl (by nofun) ?_
                                            refine L.y rfl (Y.pickF rfl rfl) ?_
                                            refine L.y rfl (Y.assign rfl) ?_
                                            refine L.nil ?_
                                            refine E.thenN ?_
                                            refine W.condF rfl ?_
                                            refine W.skip ?_
                                            refine E.blockN ?_
                                            exact E.joinJ ⟨a0.Lead, gl2, gl4, rfl, rfl, h⟩ ⟨rfl, rfl, trivial⟩ (fun _ hw => hw)
                                          ·
                                            replace h := iteT h
                                            refine L.cutJ 12 (fun gs D => ∃ (gb27 : Bool), gs = [(2, pt b1 0), (4, pt b3 0), (5, el gv3 (a1.Who.toNat * 1)), (6, el gv3 (a1.By.toNat * 1)), (200, .bool gb27)] ∧ D = Cls w [] [.obj b3 [.int .i64 0, .slice none 0 0, .slice none 0 0] 111, .obj b1 [.int .i64 a0.Lead, gv1, gv3] 111, .sl gv1 3 1 (gl2.map I), .sl gv3 3 1 (gl4.map I)] ∧ m80_quirref_PactStep_K27 gl4 a1 a0 gl2 gb27 = some r) ?_ ?_
                                            ·
                                              refine L.y rfl (Y.move rfl) ?_
                                              refine L.take rfl ?_
                                              refine L.y rfl (Y.move rfl) ?_
                                              refine L.take rfl ?_
                                              refine L.y rfl (Y.nilCheck rfl) ?_
                                              refine L.take rfl ?_
                                              refine L.y rfl (Y.loadE1 (u := .int .i64 x4) ag3 rfl (fun w hw => As.at_ (hw.get (i := 3) rfl)) (idx_map ex4)) ?_
                                              refine L.take rfl ?_
                                              refine L.ite h rfl (Y.eql rfl rfl) (fun c44 h => ?_) (fun c44 h => ?_)
                                              ·
                                                refine L.y rfl (Y.pickT rfl rfl) ?_
                                                refine L.y rfl (Y.move rfl) ?_
                                                refine L.take rfl ?_
                                                refine L.y rfl (Y.move rfl) ?_
                                                refine L.take rfl ?_
                                                refine L.y rfl (Y.nilCheck rfl) ?_
                                                refine L.take rfl ?_
                                                refine L.y rfl (Y.loadE1 (u := .int .i64 x5) ag3 rfl (fun w hw => As.at_ (hw.get (i := 3) rfl)) (idx_map ex5)) ?_
                                                refine L.take rfl ?_
                                                refine L.ite h rfl (Y.eql rfl rfl) (fun c45 h => ?_) (fun c45 h => ?_)
                                                ·
                                                  refine L.y rfl (Y.pickT rfl rfl) ?_
                                                  refine L.nil ?_
                                                  exact E.joinJ ⟨true, rfl, rfl, h⟩ ⟨rfl, rfl, rfl, rfl, rfl, trivial⟩ (fun _ hw => hw)
                                                ·
                                                  refine L.y rfl (Y.pickT rfl rfl) ?_
                                                  refine L.nil ?_
                                                  exact E.joinJ ⟨false, rfl, rfl, h⟩ ⟨rfl, rfl, rfl, rfl, rfl, trivial⟩ (fun _ hw => hw)
                                              ·
                                                refine L.y rfl (Y.pickT rfl rfl) ?_
                                                refine L.y rfl (Y.move rfl) ?_
                                                refine L.pass rfl rfl (by nofun) ?_
                                                refine L.pass rfl rfl (by nofun) ?_
                                                refine L.pass rfl rfl (by nofun) ?_
                                                refine L.pass rfl rfl (by nofun) ?_
                                                refine L.y rfl (Y.pickF rfl rfl) ?_
                                                refine L.nil ?_
                                                exact E.joinJ ⟨false, rfl, rfl, h⟩ ⟨rfl, rfl, rfl, rfl, rfl, trivial⟩ (fun _ hw => hw)
                                            ·
                                              rintro _ _ ⟨gb27, rfl, rfl, h⟩
                                              rw [m80_quirref_PactStep_K27] at h
                                              rcases gb27 with _ | _
                                              ·
                                                replace h := iteF h
                                                refine L.y rfl (Y.assign rfl) ?_
                                                refine L.nil ?_
                                                refine E.thenN ?_
                                                refine W.condF rfl ?_
                                                refine W.skip ?_
                                                refine E.blockN ?_
                                                exact E.joinJ ⟨a0.Lead, gl2, gl4, rfl, rfl, h⟩ ⟨rfl, rfl, trivial⟩ (fun _ hw => hw)
                                              ·
                                                replace h := iteT h
                                                refine L.y rfl (Y.assign rfl) ?_
                                                refine L.nil ?_
                                                refine E.thenN ?_
                                                refine W.condT rfl ?_
                                                refine W.region ?_
                                                refine L.y rfl (Y.move rfl) ?_
                                                refine L.y rfl (Y.move rfl) ?_
                                                refine L.y rfl (Y.nilCheck rfl) ?_
                                                refine L.storeSlM (q := 3) (row := I) (vs := [.int .i64 3]) (j := 0) (u1 := 3) h sz3 rfl rfl rfl rfl rfl (all1 rfl all0) rfl ex4 rfl rfl ?_
                                                intro l41 el41 h
                                                refine L.y rfl (Y.nilCheck rfl) ?_
                                                obtain ⟨x42, ex42, h⟩ := bind1S h
                                                refine L.storeSlM (q := 3) (row := I) (vs := [.int .i64 3]) (j := 0) (u1 := 3) h sz3 rfl rfl rfl rfl rfl (all1 rfl all0) rfl ex42 rfl rfl ?_
                                                intro l43 el43 h
                                                refine L.nil ?_
                                                refine E.blockN ?_
                                                exact E.joinJ ⟨a0.Lead, gl2, l43, rfl, rfl, h⟩ ⟨rfl, rfl, trivial⟩ (fun _ hw => hw)
                                      ·
                                        replace h := iteT h
                                        refine L.cutJ 12 (fun gs D => ∃ (gb28 : Bool), gs = [(2, pt b1 0), (3, pt b2 0), (4, pt b3 0), (5, el gv3 (a1.Who.toNat * 1)), (6, el gv3 (a1.By.toNat * 1)), (172, .bool gb28)] ∧ D = Cls w [] [.obj b3 [.int .i64 0, .slice none 0 0, .slice none 0 0] 111, .obj b2 [.int .i64 a1.Kind, .int .i64 a1.Who, .int .i64 a1.By] 113, .obj b1 [.int .i64 a0.Lead, gv1, gv3] 111, .sl gv1 3 1 (gl2.map I), .sl gv3 3 1 (gl4.map I)] ∧ m80_quirref_PactStep_K28 gl4 a1 x5 a0 gl2 x4 gb28 = some r) ?_ ?_
                                        ·
                                          refine L.y rfl (Y.move rfl) ?_
                                          refine L.take rfl ?_
                                          refine L.y rfl (Y.move rfl) ?_
                                          refine L.take rfl ?_
                                          refine L.y rfl (Y.nilCheck rfl) ?_
                                          refine L.take rfl ?_
                                          refine L.y rfl (Y.loadE1 (u := .int .i64 x4) ag3 rfl (fun w hw => As.at_ (hw.get (i := 4) rfl)) (idx_map ex4)) ?_
                                          refine L.take rfl ?_
                                          refine L.ite h rfl (Y.eql rfl rfl) (fun c56 h => ?_) (fun c56 h => ?_)
                                          ·
                                            refine L.y rfl (Y.pickT rfl rfl) ?_
                                            refine L.y rfl (Y.move rfl) ?_
                                            refine L.take rfl ?_
                                            refine L.y rfl (Y.move rfl) ?_
                                            refine L.take rfl ?_
                                            refine L.y rfl (Y.nilCheck rfl) ?_
                                            refine L.take rfl ?_
                                            refine L.y rfl (Y.loadE1 (u := .int .i64 x5) ag3 rfl (fun w hw => As.at_ (hw.get (i := 4) rfl)) (idx_map ex5)) ?_
                                            refine L.take rfl ?_
                                            refine L.ite h rfl (Y.gtr rfl rfl) (fun c57 h => ?_) (fun c57 h => ?_)
                                            ·
                                              refine L.y rfl (Y.pickT rfl rfl) ?_
                                              refine L.nil ?_
                                              exact E.joinJ ⟨true, rfl, rfl, h⟩ ⟨rfl, rfl, rfl, rfl, rfl, rfl, trivial⟩ (fun _ hw => hw)
                                            ·
                                              refine L.y rfl (Y.pickT rfl rfl) ?_
                                              refine L.nil ?_
                                              exact E.joinJ ⟨false, rfl, rfl, h⟩ ⟨rfl, rfl, rfl, rfl, rfl, rfl, trivial⟩ (fun _ hw => hw)
                                          ·
                                            refine L.y rfl (Y.pickT rfl rfl) ?_
                                            refine L.y rfl (Y.move rfl) ?_
                                            refine L.pass rfl rfl (by nofun) ?_
                                            refine L.pass rfl rfl (by nofun) ?_
                                            refine L.pass rfl rfl (by nofun) ?_
                                            refine L.pass rfl rfl (by nofun) ?_
                                            refine L.y rfl (Y.pickF rfl rfl) ?_
                                            refine L.nil ?_
                                            exact E.joinJ ⟨false, rfl, rfl, h⟩ ⟨rfl, rfl, rfl, rfl, rfl, rfl, trivial⟩ (fun _ hw => hw)
                                        ·
                                          rintro _ _ ⟨gb28, rfl, rfl, h⟩
                                          rw [m80_quirref_PactStep_K28] at h
                                          rcases gb28 with _ | _
                                          ·
                                            replace h := iteF h
                                            refine L.y rfl (Y.assign rfl) ?_
                                            refine L.nil ?_
                                            refine E.thenN ?_
                                            refine W.condF rfl ?_
                                            refine W.seq ?_
                                            refine W.region ?_
                                            refine L.cutJ 10 (fun gs D => ∃ (gb29 : Bool), gs = [(2, pt b1 0), (4, pt b3 0), (5, el gv3 (a1.Who.toNat * 1)), (6, el gv3 (a1.By.toNat * 1)), (188, .bool gb29)] ∧ D = Cls w [] [.obj b3 [.int .i64 0, .slice none 0 0, .slice none 0 0] 111, .obj b1 [.int .i64 a0.Lead, gv1, gv3] 111, .sl gv1 3 1 (gl2.map I), .sl gv3 3 1 (gl4.map I)] ∧ m80_quirref_PactStep_K29 x4 x5 gl4 a1 a0 gl2 gb29 = some r) ?_ ?_
                                            ·
                                              refine L.y rfl (Y.fieldP fd113_0 rfl) ?_
                                              refine L.y rfl (Y.loadP (i := 1) ag3 rfl rfl rfl) ?_
                                              refine L.ite h rfl (Y.eql rfl rfl) (fun c53 h => ?_) (fun c53 h => ?_)
                                              ·
                                                refine L.y rfl (Y.move rfl) ?_
                                                refine L.take rfl ?_
                                                refine L.y rfl (Y.fieldP fd113_1 rfl) ?_
                                                refine L.take rfl ?_
                                                refine L.y rfl (Y.loadP (i := 1) ag3 rfl rfl rfl) ?_
                                                refine L.take rfl ?_
                                                refine L.y rfl (Y.fieldP fd113_2 rfl) ?_
                                                refine L.take rfl ?_
                                                refine L.y rfl (Y.loadP (i := 1) ag3 rfl rfl rfl) ?_
                                                refine L.take rfl ?_
                                                refine L.ite h rfl (Y.neq rfl rfl) (fun c54 h => ?_) (fun c54 h => ?_)
                                                ·
                                                  refine L.y rfl (Y.pickT rfl rfl) ?_
                                                  refine L.nil ?_
                                                  exact E.joinJ ⟨true, rfl, rfl, h⟩ ⟨rfl, rfl, rfl, rfl, rfl, trivial⟩ (fun _ hw => hw.sel [0, 2, 3, 4] (by decide) rfl)
                                                ·
                                                  refine L.y rfl (Y.pickT rfl rfl) ?_
                                                  refine L.nil ?_
                                                  exact E.joinJ ⟨false, rfl, rfl, h⟩ ⟨rfl, rfl, rfl, rfl, rfl, trivial⟩ (fun _ hw => hw.sel [0, 2, 3, 4] (by decide) rfl)
                                              ·
                                                refine L.y rfl (Y.move rfl) ?_
                                                refine L.pass rfl rfl (by nofun) ?_
                                                refine L.pass rfl rfl (by nofun) ?_
                                                refine L.pass rfl rfl (by nofun) ?_
                                                refine L.pass rfl rfl (by nofun) ?_
                                                refine L.pass rfl rfl (by nofun) ?_
                                                refine L.y rfl (Y.pickF rfl rfl) ?_
                                                refine L.nil ?_
                                                exact E.joinJ ⟨false, rfl, rfl, h⟩ ⟨rfl, rfl, rfl, rfl, rfl, trivial⟩ (fun _ hw => hw.sel [0, 2, 3, 4] (by decide) rfl)
                                            ·
                                              rintro _ _ ⟨gb29, rfl, rfl, h⟩
                                              rw [m80_quirref_PactStep_K29] at h
                                              rcases gb29 with _ | _
                                              ·
                                                replace h := iteF h
                                                refine L.y rfl (Y.move rfl) ?_
                                                refine L.pass rfl rfl (by nofun) ?_
                                                refine L.pass rfl rfl (by nofun) ?_
                                                refine L.pass rfl rfl (by nofun) ?_
                                                refine L.pass rfl rfl (by nofun) ?_
                                                refine L.y rfl (Y.pickF rfl rfl) ?_
                                                refine L.y rfl (Y.move rfl) ?_
                                                refine L.pass rfl rfl (by nofun) ?_
                                                refine L.pass rfl rfl (by nofun) ?_
                                                refine L.pass rfl rfl (by nofun) ?_
                                                refine L.pass rfl rfl (by nofun) ?_
                                                refine L.y rfl (Y.pickF rfl rfl) ?_
                                                refine L.y rfl (Y.assign rfl) ?_
                                                refine L.nil ?_
                                                refine E.thenN ?_
                                                refine W.condF rfl ?_
                                                refine W.skip ?_
                                                refine E.blockN ?_
                                                exact E.joinJ ⟨a0.Lead, gl2, gl4, rfl, rfl, h⟩ ⟨rfl, rfl, trivial⟩ (fun _ hw => hw)
                                              ·
                                                replace h := iteT h
                                                refine L.cutJ 12 (fun gs D => ∃ (gb30 : Bool), gs = [(2, pt b1 0), (4, pt b3 0), (5, el gv3 (a1.Who.toNat * 1)), (6, el gv3 (a1.By.toNat * 1)), (200, .bool gb30)] ∧ D = Cls w [] [.obj b3 [.int .i64 0, .slice none 0 0, .slice none 0 0] 111, .obj b1 [.int .i64 a0.Lead, gv1, gv3] 111, .sl gv1 3 1 (gl2.map I), .sl gv3 3 1 (gl4.map I)] ∧ m80_quirref_PactStep_K30 gl4 a1 a0 gl2 gb30 = some r) ?_ ?_
                                                ·
                                                  refine L.y rfl (Y.move rfl) ?_
                                                  refine L.take rfl ?_
                                                  refine L.y rfl (Y.move rfl) ?_
                                                  refine L.take rfl ?_
                                                  refine L.y rfl (Y.nilCheck rfl) ?_
                                                  refine L.take rfl ?_
                                                  refine L.y rfl (Y.loadE1 (u := .int .i64 x4) ag3 rfl (fun w hw => As.at_ (hw.get (i := 3) rfl)) (idx_map ex4)) ?_
                                                  refine L.take rfl ?_
                                                  refine L.ite h rfl (Y.eql rfl rfl) (fun c51 h => ?_) (fun c51 h => ?_)
                                                  ·
                                                    refine L.y rfl (Y.pickT rfl rfl) ?_
                                                    refine L.y rfl (Y.move rfl) ?_
                                                    refine L.take rfl ?_
                                                    refine L.y rfl (Y.move rfl) ?_
                                                    refine L.take rfl ?_
                                                    refine L.y rfl (Y.nilCheck rfl) ?_
                                                    refine L.take rfl ?_
                                                    refine L.y rfl (Y.loadE1 (u := .int .i64 x5) ag3 rfl (fun w hw => As.at_ (hw.get (i := 3) rfl)) (idx_map ex5)) ?_
                                                    refine L.take rfl ?_
                                                    refine L.ite h rfl (Y.eql rfl rfl) (fun c52 h => ?_) (fun c52 h => ?_)
                                                    ·
                                                      refine L.y rfl (Y.pickT rfl rfl) ?_
                                                      refine L.nil ?_
                                                      exact E.joinJ ⟨true, rfl, rfl, h⟩ ⟨rfl, rfl, rfl, rfl, rfl, trivial⟩ (fun _ hw => hw)
                                                    ·
                                                      refine L.y rfl (Y.pickT rfl rfl) ?_
                                                      refine L.nil ?_
                                                      exact E.joinJ ⟨false, rfl, rfl, h⟩ ⟨rfl, rfl, rfl, rfl, rfl, trivial⟩ (fun _ hw => hw)
                                                  ·
                                                    refine L.y rfl (Y.pickT rfl rfl) ?_
                                                    refine L.y rfl (Y.move rfl) ?_
                                                    refine L.pass rfl rfl (by nofun) ?_
                                                    refine L.pass rfl rfl (by nofun) ?_
                                                    refine L.pass rfl rfl (by nofun) ?_
                                                    refine L.pass rfl rfl (by nofun) ?_
                                                    refine L.y rfl (Y.pickF rfl rfl) ?_
                                                    refine L.nil ?_
                                                    exact E.joinJ ⟨false, rfl, rfl, h⟩ ⟨rfl, rfl, rfl, rfl, rfl, trivial⟩ (fun _ hw => hw)
                                                ·
                                                  rintro _ _ ⟨gb30, rfl, rfl, h⟩
                                                  rw [m80_quirref_PactStep_K30] at h
                                                  rcases gb30 with _ | _
                                                  ·
                                                    replace h := iteF h
                                                    refine L.y rfl (Y.assign rfl) ?_
                                                    refine L.nil ?_
                                                    refine E.thenN ?_
                                                    refine W.condF rfl ?_
                                                    refine W.skip ?_
                                                    refine E.blockN ?_
                                                    exact E.joinJ ⟨a0.Lead, gl2, gl4, rfl, rfl, h⟩ ⟨rfl, rfl, trivial⟩ (fun _ hw => hw)
                                                  ·
                                                    replace h := iteT h
                                                    refine L.y rfl (Y.assign rfl) ?_
                                                    refine L.nil ?_
                                                    refine E.thenN ?_
                                                    refine W.condT rfl ?_
                                                    refine W.region ?_
                                                    refine L.y rfl (Y.move rfl) ?_
                                                    refine L.y rfl (Y.move rfl) ?_
                                                    refine L.y rfl (Y.nilCheck rfl) ?_
                                                    refine L.storeSlM (q := 3) (row := I) (vs := [.int .i64 3]) (j := 0) (u1 := 3) h sz3 rfl rfl rfl rfl rfl (all1 rfl all0) rfl ex4 rfl rfl ?_
                                                    intro l48 el48 h
                                                    refine L.y rfl (Y.nilCheck rfl) ?_
                                                    obtain ⟨x49, ex49, h⟩ := bind1S h
                                                    refine L.storeSlM (q := 3) (row := I) (vs := [.int .i64 3]) (j := 0) (u1 := 3) h sz3 rfl rfl rfl rfl rfl (all1 rfl all0) rfl ex49 rfl rfl ?_
                                                    intro l50 el50 h
                                                    refine L.nil ?_
                                                    refine E.blockN ?_
                                                    exact E.joinJ ⟨a0.Lead, gl2, l50, rfl, rfl, h⟩ ⟨rfl, rfl, trivial⟩ (fun _ hw => hw)
                                          ·
                                            replace h := iteT h
                                            refine L.y rfl (Y.assign rfl) ?_
                                            refine L.nil ?_
                                            refine E.thenN ?_
                                            refine W.condT rfl ?_
                                            refine W.region ?_
                                            refine L.y rfl (Y.move rfl) ?_
                                            refine L.y rfl (Y.move rfl) ?_
                                            refine L.y rfl (Y.nilCheck rfl) ?_
                                            refine L.y rfl (Y.loadE1 (u := .int .i64 x5) ag3 rfl (fun w hw => As.at_ (hw.get (i := 4) rfl)) (idx_map ex5)) ?_
                                            refine L.y rfl (Y.nilCheck rfl) ?_
                                            refine L.storeSlM (q := 4) (row := I) (vs := [.int .i64 x5]) (j := 0) (u1 := x5) h sz3 rfl rfl rfl rfl rfl (all1 rfl all0) rfl ex4 rfl rfl ?_
                                            intro l55 el55 h
                                            refine L.nil ?_
                                            refine E.blockN ?_
                                            exact E.joinJ ⟨a0.Lead, gl2, l55, rfl, rfl, h⟩ ⟨rfl, rfl, trivial⟩ (fun _ hw => hw.sel [0, 2, 3, 4] (by decide) rfl)
                                ·
                                  replace h := iteT h
                                  refine L.y rfl (Y.assign rfl) ?_
                                  refine L.nil ?_
                                  refine E.thenN ?_
                                  refine W.condT rfl ?_
                                  refine W.region ?_
                                  refine L.y rfl (Y.fieldP fd111_0 rfl) ?_
                                  refine L.store (i := 2) sz3 rfl rfl rfl rfl (by simp [Value.oneCell', Value.cells, st]) rfl (Nat.le_of_ble_eq_true rfl) ?_
                                  refine L.nil ?_
                                  refine E.blockN ?_
                                  exact E.joinJ ⟨1, gl2, gl4, rfl, rfl, h⟩ ⟨rfl, rfl, trivial⟩ (fun _ hw => hw.sel [0, 2, 3, 4] (by decide) rfl)
                            ·
                              replace h := iteT h
                              refine W.condT rfl ?_
                              refine W.region ?_
                              refine L.y rfl (Y.fieldP fd111_0 rfl) ?_
                              refine L.store (i := 2) sz3 rfl rfl rfl rfl (by simp [Value.oneCell', Value.cells, st]) rfl (Nat.le_of_ble_eq_true rfl) ?_
                              refine L.nil ?_
                              refine E.blockN ?_
                              exact E.joinJ ⟨2, gl2, gl4, rfl, rfl, h⟩ ⟨rfl, rfl, trivial⟩ (fun _ hw => hw.sel [0, 2, 3, 4] (by decide) rfl)
                        ·
                          replace h := iteT h
                          refine L.y rfl (Y.move rfl) ?_
                          refine L.take rfl ?_
                          refine L.y rfl (Y.fieldP fd111_1 rfl) ?_
                          refine L.take rfl ?_
                          refine L.y rfl (Y.loadP (i := 2) ag24 rfl rfl rfl) ?_
                          refine L.take rfl ?_
                          refine L.y rfl (Y.fieldP fd113_1 rfl) ?_
                          refine L.take rfl ?_
                          refine L.y rfl (Y.loadP (i := 1) ag3 rfl rfl rfl) ?_
                          refine L.take rfl ?_
                          refine L.m (V := fun _ => el gv1 (a1.Who.toNat * 1)) h rfl (Y.indexM (g := I) (l := gl2) Try.underlying24 sz3 rfl rfl (fun w hw => As.at_ (hw.get (i := 3) rfl))) (fun x70 ex70 h => ?_)
                          refine L.take rfl ?_
                          refine L.y rfl (Y.loadE1 (u := .int .i64 x70) ag3 rfl (fun w hw => As.at_ (hw.get (i := 3) rfl)) (idx_map ex70)) ?_
                          refine L.take rfl ?_
                          refine L.ite h rfl (Y.eql rfl rfl) (fun c71 h => ?_) (fun c71 h => ?_)
                          ·
                            refine L.y rfl (Y.pickT rfl rfl) ?_
                            refine L.y rfl (Y.assign rfl) ?_
                            refine L.nil ?_
                            refine E.thenN ?_
                            refine W.condT rfl ?_
                            refine W.region ?_
                            refine L.y rfl (Y.fieldP fd111_1 rfl) ?_
                            refine L.y rfl (Y.loadP (i := 2) ag24 rfl rfl rfl) ?_
                            refine L.y rfl (Y.fieldP fd113_1 rfl) ?_
                            refine L.y rfl (Y.loadP (i := 1) ag3 rfl rfl rfl) ?_
                            refine L.m (V := fun _ => el gv1 (a1.Who.toNat * 1)) h rfl (Y.indexM (g := I) (l := gl2) Try.underlying24 sz3 rfl rfl (fun w hw => As.at_ (hw.get (i := 3) rfl))) (fun x72 ex72 h => ?_)
                            refine L.storeSlM (q := 3) (row := I) (vs := [.int .i64 2]) (j := 0) (u1 := 2) h sz3 rfl rfl rfl rfl rfl (all1 rfl all0) rfl ex72 rfl rfl ?_
                            intro l73 el73 h
                            refine L.nil ?_
                            refine E.blockN ?_
                            exact E.joinJ ⟨a0.Lead, l73, gl4, rfl, rfl, h⟩ ⟨rfl, rfl, trivial⟩ (fun _ hw => hw.sel [0, 2, 3, 4] (by decide) rfl)
                          ·
                            refine L.y rfl (Y.pickT rfl rfl) ?_
                            refine L.y rfl (Y.assign rfl) ?_
                            refine L.nil ?_
                            refine E.thenN ?_
                            refine W.condF rfl ?_
                            refine W.seqJ (fun gs D => ∃ (gb33 : Bool), gs = [(2, pt b1 0), (3, pt b2 0), (4, pt b3 0), (5, el gv3 (a1.Who.toNat * 1)), (6, el gv3 (a1.By.toNat * 1)), (7, .bool true), (98, .bool gb33)] ∧ D = Cls w [] [.obj b3 [.int .i64 0, .slice none 0 0, .slice none 0 0] 111, .obj b2 [.int .i64 a1.Kind, .int .i64 a1.Who, .int .i64 a1.By] 113, .obj b1 [.int .i64 a0.Lead, gv1, gv3] 111, .sl gv1 3 1 (gl2.map I), .sl gv3 3 1 (gl4.map I)] ∧ m80_quirref_PactStep_K33 gl2 gl4 a1 x4 x5 a0 gb33 = some r) ?_ ?_
                            ·
                              refine W.seq ?_
                              refine W.region ?_
                              refine L.cutJ 11 (fun gs D => ∃ (gb42 : Bool), gs = [(2, pt b1 0), (3, pt b2 0), (4, pt b3 0), (5, el gv3 (a1.Who.toNat * 1)), (6, el gv3 (a1.By.toNat * 1)), (7, .bool true), (109, .bool gb42)] ∧ D = Cls w [] [.obj b3 [.int .i64 0, .slice none 0 0, .slice none 0 0] 111, .obj b2 [.int .i64 a1.Kind, .int .i64 a1.Who, .int .i64 a1.By] 113, .obj b1 [.int .i64 a0.Lead, gv1, gv3] 111, .sl gv1 3 1 (gl2.map I), .sl gv3 3 1 (gl4.map I)] ∧ m80_quirref_PactStep_K43 gl2 gl4 a1 x4 x5 a0 gb42 = some r) ?_ ?_
                              ·
                                refine L.y rfl (Y.fieldP fd113_0 rfl) ?_
                                refine L.y rfl (Y.loadP (i := 1) ag3 rfl rfl rfl) ?_
                                refine L.ite h rfl (Y.eql rfl rfl) (fun c100 h => ?_) (fun c100 h => ?_)
                                ·
                                  refine L.y rfl (Y.move rfl) ?_
                                  refine L.take rfl ?_
                                  refine L.y rfl (Y.move rfl) ?_
                                  refine L.y rfl (Y.pickT rfl rfl) ?_
                                  refine L.y rfl (Y.move rfl) ?_
                                  refine L.take rfl ?_
                                  refine L.y rfl (Y.fieldP fd111_1 rfl) ?_
                                  refine L.take rfl ?_
                                  refine L.y rfl (Y.loadP (i := 2) ag24 rfl rfl rfl) ?_
                                  refine L.take rfl ?_
                                  obtain ⟨b101, e102, h⟩ := bind1S h
                                  refine L.y rfl (Y.does en134 rfl (fun w' hw => (w134_slices_Contains_int gl2 2 gv1 w' _ e102 (As.at_ (hw.get (i := 3) rfl))).mono (fun _ _ h => h.1))) ?_
                                  rcases b101 with _ | _
                                  ·
                                    replace h := iteF h
                                    refine L.y rfl (Y.pickT rfl rfl) ?_
                                    refine L.nil ?_
                                    exact E.joinJ ⟨false, rfl, rfl, h⟩ ⟨rfl, rfl, rfl, rfl, rfl, rfl, rfl, trivial⟩ (fun _ hw => hw)
                                  ·
                                    replace h := iteT h
                                    refine L.y rfl (Y.pickT rfl rfl) ?_
                                    refine L.nil ?_
                                    exact E.joinJ ⟨true, rfl, rfl, h⟩ ⟨rfl, rfl, rfl, rfl, rfl, rfl, rfl, trivial⟩ (fun _ hw => hw)
                                ·
                                  refine L.y rfl (Y.move rfl) ?_
                                  refine L.pass rfl rfl (by nofun) ?_
                                  refine L.y rfl (Y.pickF rfl rfl) ?_
                                  refine L.y rfl (Y.move rfl) ?_
                                  refine L.pass rfl rfl (by nofun) ?_
                                  refine L.pass rfl rfl (by nofun) ?_
                                  refine L.pass rfl rfl (by nofun) ?_
                                  refine L.y rfl (Y.pickF rfl rfl) ?_
                                  refine L.nil ?_
                                  exact E.joinJ ⟨false, rfl, rfl, h⟩ ⟨rfl, rfl, rfl, rfl, rfl, rfl, rfl, trivial⟩ (fun _ hw => hw)
                              ·
                                rintro _ _ ⟨gb42, rfl, rfl, h⟩
                                rw [m80_quirref_PactStep_K43] at h
                                rcases gb42 with _ | _
                                ·
                                  replace h := iteF h
                                  refine L.y rfl (Y.assign rfl) ?_
                                  refine L.nil ?_
                                  refine E.thenN ?_
                                  refine W.condF rfl ?_
                                  refine W.region ?_
                                  refine L.y rfl (Y.fieldP fd113_0 rfl) ?_
                                  refine L.y rfl (Y.loadP (i := 1) ag3 rfl rfl rfl) ?_
                                  refine L.ite h rfl (Y.eql rfl rfl) (fun c99 h => ?_) (fun c99 h => ?_)
                                  ·
                                    refine L.y rfl (Y.move rfl) ?_
                                    refine L.take rfl ?_
                                    refine L.y rfl (Y.move rfl) ?_
                                    refine L.y rfl (Y.pickT rfl rfl) ?_
                                    refine L.y rfl (Y.assign rfl) ?_
                                    refine L.nil ?_
                                    exact E.joinJ ⟨true, rfl, rfl, h⟩ ⟨rfl, rfl, rfl, rfl, rfl, rfl, rfl, trivial⟩ (fun _ hw => hw)
                                  ·
                                    refine L.y rfl (Y.move rfl) ?_
                                    refine L.pass rfl rfl (by nofun) ?_
                                    refine L.y rfl (Y.pickF rfl rfl) ?_
                                    refine L.y rfl (Y.assign rfl) ?_
                                    refine L.nil ?_
                                    exact E.joinJ ⟨false, rfl, rfl, h⟩ ⟨rfl, rfl, rfl, rfl, rfl, rfl, rfl, trivial⟩ (fun _ hw => hw)
                                ·
                                  replace h := iteT h
                                  refine L.y rfl (Y.assign rfl) ?_
                                  refine L.nil ?_
                                  refine E.thenN ?_
                                  refine W.condT rfl ?_
                                  refine W.skip ?_
                                  exact E.joinJ ⟨true, rfl, rfl, h⟩ ⟨rfl, rfl, rfl, rfl, rfl, rfl, rfl, trivial⟩ (fun _ hw => hw)
                            ·
                              rintro _ _ ⟨gb33, rfl, rfl, h⟩
                              rw [m80_quirref_PactStep_K33] at h
                              rcases gb33 with _ | _
                              ·
                                replace h := iteF h
                                refine W.condF rfl ?_
                                refine W.seq ?_
                                refine W.region ?_
                                refine L.cutJ 12 (fun gs D => ∃ (gb34 : Bool), gs = [(2, pt b1 0), (3, pt b2 0), (4, pt b3 0), (5, el gv3 (a1.Who.toNat * 1)), (6, el gv3 (a1.By.toNat * 1)), (7, .bool true), (129, .bool gb34)] ∧ D = Cls w [] [.obj b3 [.int .i64 0, .slice none 0 0, .slice none 0 0] 111, .obj b2 [.int .i64 a1.Kind, .int .i64 a1.Who, .int .i64 a1.By] 113, .obj b1 [.int .i64 a0.Lead, gv1, gv3] 111, .sl gv1 3 1 (gl2.map I), .sl gv3 3 1 (gl4.map I)] ∧ m80_quirref_PactStep_K34 gl2 gl4 a1 x4 x5 a0 gb34 = some r) ?_ ?_
                                ·
                                  refine L.y rfl (Y.fieldP fd113_0 rfl) ?_
                                  refine L.y rfl (Y.loadP (i := 1) ag3 rfl rfl rfl) ?_
                                  refine L.ite h rfl (Y.eql rfl rfl) (fun c95 h => ?_) (fun c95 h => ?_)
                                  ·
                                    refine L.y rfl (Y.move rfl) ?_
                                    refine L.take rfl ?_
                                    refine L.y rfl (Y.move rfl) ?_
                                    refine L.y rfl (Y.pickT rfl rfl) ?_
                                    refine L.y rfl (Y.move rfl) ?_
                                    refine L.take rfl ?_
                                    refine L.y rfl (Y.fieldP fd111_1 rfl) ?_
                                    refine L.take rfl ?_
                                    refine L.y rfl (Y.loadP (i := 2) ag24 rfl rfl rfl) ?_
                                    refine L.take rfl ?_
                                    obtain ⟨x96, e97, h⟩ := bind1S h
                                    refine L.y rfl (Y.does en135 rfl (fun w' hw => (w135_slices_Min_int gl2 gv1 w' _ e97 (As.at_ (hw.get (i := 3) rfl))).mono (fun _ _ h => h.1))) ?_
                                    refine L.take rfl ?_
                                    refine L.ite h rfl (Y.eql rfl rfl) (fun c98 h => ?_) (fun c98 h => ?_)
                                    ·
                                      refine L.y rfl (Y.pickT rfl rfl) ?_
                                      refine L.nil ?_
                                      exact E.joinJ ⟨true, rfl, rfl, h⟩ ⟨rfl, rfl, rfl, rfl, rfl, rfl, rfl, trivial⟩ (fun _ hw => hw)
                                    ·
                                      refine L.y rfl (Y.pickT rfl rfl) ?_
                                      refine L.nil ?_
                                      exact E.joinJ ⟨false, rfl, rfl, h⟩ ⟨rfl, rfl, rfl, rfl, rfl, rfl, rfl, trivial⟩ (fun _ hw => hw)
                                  ·
                                    refine L.y rfl (Y.move rfl) ?_
                                    refine L.pass rfl rfl (by nofun) ?_
                                    refine L.y rfl (Y.pickF rfl rfl) ?_
                                    refine L.y rfl (Y.move rfl) ?_
                                    refine L.pass rfl rfl (by nofun) ?_
                                    refine L.pass rfl rfl (by nofun) ?_
                                    refine L.pass rfl rfl (by nofun) ?_
                                    refine L.pass rfl rfl (by nofun) ?_
                                    refine L.y rfl (Y.pickF rfl rfl) ?_
                                    refine L.nil ?_
                                    exact E.joinJ ⟨false, rfl, rfl, h⟩ ⟨rfl, rfl, rfl, rfl, rfl, rfl, rfl, trivial⟩ (fun _ hw => hw)
                                ·
                                  rintro _ _ ⟨gb34, rfl, rfl, h⟩
                                  rw [m80_quirref_PactStep_K34] at h
                                  rcases gb34 with _ | _
                                  ·
                                    replace h := iteF h
                                    refine L.y rfl (Y.assign rfl) ?_
                                    refine L.nil ?_
                                    refine E.thenN ?_
                                    refine W.condF rfl ?_
                                    refine W.seqJ (fun gs D => gs = [(2, pt b1 0), (3, pt b2 0), (4, pt b3 0), (5, el gv3 (a1.Who.toNat * 1)), (6, el gv3 (a1.By.toNat * 1)), (131, .bool false)] ∧ D = Cls w [] [.obj b3 [.int .i64 0, .slice none 0 0, .slice none 0 0] 111, .obj b2 [.int .i64 a1.Kind, .int .i64 a1.Who, .int .i64 a1.By] 113, .obj b1 [.int .i64 a0.Lead, gv1, gv3] 111, .sl gv1 3 1 (gl2.map I), .sl gv3 3 1 (gl4.map I)] ∧ m80_quirref_PactStep_K35 a1 x4 x5 gl4 a0 gl2 = some r) ?_ ?_
                                    ·
                                      refine W.region ?_
                                      refine L.cutJ 9 (fun gs D => ∃ (gb41 : Bool), gs = [(2, pt b1 0), (3, pt b2 0), (4, pt b3 0), (5, el gv3 (a1.Who.toNat * 1)), (6, el gv3 (a1.By.toNat * 1)), (7, .bool true), (140, .bool gb41)] ∧ D = Cls w [] [.obj b3 [.int .i64 0, .slice none 0 0, .slice none 0 0] 111, .obj b2 [.int .i64 a1.Kind, .int .i64 a1.Who, .int .i64 a1.By] 113, .obj b1 [.int .i64 a0.Lead, gv1, gv3] 111, .sl gv1 3 1 (gl2.map I), .sl gv3 3 1 (gl4.map I)] ∧ m80_quirref_PactStep_K42 a1 x4 x5 gl4 a0 gl2 gb41 = some r) ?_ ?_
                                      ·
                                        refine L.y rfl (Y.fieldP fd113_0 rfl) ?_
                                        refine L.y rfl (Y.loadP (i := 1) ag3 rfl rfl rfl) ?_
                                        refine L.ite h rfl (Y.eql rfl rfl) (fun c93 h => ?_) (fun c93 h => ?_)
                                        ·
                                          refine L.y rfl (Y.move rfl) ?_
                                          refine L.take rfl ?_
                                          refine L.y rfl (Y.move rfl) ?_
                                          refine L.take rfl ?_
                                          refine L.y rfl (Y.nilCheck rfl) ?_
                                          refine L.take rfl ?_
                                          refine L.y rfl (Y.loadE1 (u := .int .i64 x4) ag3 rfl (fun w hw => As.at_ (hw.get (i := 4) rfl)) (idx_map ex4)) ?_
                                          refine L.take rfl ?_
                                          refine L.ite h rfl (Y.lss rfl rfl) (fun c94 h => ?_) (fun c94 h => ?_)
                                          ·
                                            refine L.y rfl (Y.pickT rfl rfl) ?_
                                            refine L.nil ?_
                                            exact E.joinJ ⟨true, rfl, rfl, h⟩ ⟨rfl, rfl, rfl, rfl, rfl, rfl, rfl, trivial⟩ (fun _ hw => hw)
                                          ·
                                            refine L.y rfl (Y.pickT rfl rfl) ?_
                                            refine L.nil ?_
                                            exact E.joinJ ⟨false, rfl, rfl, h⟩ ⟨rfl, rfl, rfl, rfl, rfl, rfl, rfl, trivial⟩ (fun _ hw => hw)
                                        ·
                                          refine L.y rfl (Y.move rfl) ?_
                                          refine L.pass rfl rfl (by nofun) ?_
                                          refine L.pass rfl rfl (by nofun) ?_
                                          refine L.pass rfl rfl (by nofun) ?_
                                          refine L.pass rfl rfl (by nofun) ?_
                                          refine L.y rfl (Y.pickF rfl rfl) ?_
                                          refine L.nil ?_
                                          exact E.joinJ ⟨false, rfl, rfl, h⟩ ⟨rfl, rfl, rfl, rfl, rfl, rfl, rfl, trivial⟩ (fun _ hw => hw)
                                      ·
                                        rintro _ _ ⟨gb41, rfl, rfl, h⟩
                                        rw [m80_quirref_PactStep_K42] at h
                                        rcases gb41 with _ | _
                                        ·
                                          replace h := iteF h
                                          refine L.y rfl (Y.move rfl) ?_
                                          refine L.pass rfl rfl (by nofun) ?_
                                          refine L.pass rfl rfl (by nofun) ?_
                                          refine L.y rfl (Y.pickF rfl rfl) ?_
                                          refine L.y rfl (Y.assign rfl) ?_
                                          refine L.nil ?_
                                          exact E.joinJ ⟨rfl, rfl, h⟩ ⟨rfl, rfl, rfl, rfl, rfl, rfl, trivial⟩ (fun _ hw => hw)
                                        ·
                                          replace h := iteT h
                                          refine L.y rfl (Y.move rfl) ?_
                                          refine L.take rfl ?_
                                          refine L.y rfl (Y.move rfl) ?_
                                          refine L.take rfl ?_
                                          refine L.y rfl (Y.not rfl) ?_
                                          refine L.y rfl (Y.pickT rfl rfl) ?_
                                          refine L.y rfl (Y.assign rfl) ?_
                                          refine L.nil ?_
                                          exact E.joinJ ⟨rfl, rfl, h⟩ ⟨rfl, rfl, rfl, rfl, rfl, rfl, trivial⟩ (fun _ hw => hw)
                                    ·
                                      rintro _ _ ⟨rfl, rfl, h⟩
                                      rw [m80_quirref_PactStep_K35] at h
                                      refine W.condF rfl ?_
                                      refine W.seq ?_
                                      refine W.region ?_
                                      refine L.cutJ 10 (fun gs D => ∃ (gb35 : Bool), gs = [(2, pt b1 0), (3, pt b2 0), (4, pt b3 0), (5, el gv3 (a1.Who.toNat * 1)), (6, el gv3 (a1.By.toNat * 1)), (160, .bool gb35)] ∧ D = Cls w [] [.obj b3 [.int .i64 0, .slice none 0 0, .slice none 0 0] 111, .obj b2 [.int .i64 a1.Kind, .int .i64 a1.Who, .int .i64 a1.By] 113, .obj b1 [.int .i64 a0.Lead, gv1, gv3] 111, .sl gv1 3 1 (gl2.map I), .sl gv3 3 1 (gl4.map I)] ∧ m80_quirref_PactStep_K36 x4 x5 gl4 a1 a0 gl2 gb35 = some r) ?_ ?_
                                      ·
                                        refine L.y rfl (Y.fieldP fd113_0 rfl) ?_
                                        refine L.y rfl (Y.loadP (i := 1) ag3 rfl rfl rfl) ?_
                                        refine L.ite h rfl (Y.eql rfl rfl) (fun c91 h => ?_) (fun c91 h => ?_)
                                        ·
                                          refine L.y rfl (Y.move rfl) ?_
                                          refine L.take rfl ?_
                                          refine L.y rfl (Y.fieldP fd113_1 rfl) ?_
                                          refine L.take rfl ?_
                                          refine L.y rfl (Y.loadP (i := 1) ag3 rfl rfl rfl) ?_
                                          refine L.take rfl ?_
                                          refine L.y rfl (Y.fieldP fd113_2 rfl) ?_
                                          refine L.take rfl ?_
                                          refine L.y rfl (Y.loadP (i := 1) ag3 rfl rfl rfl) ?_
                                          refine L.take rfl ?_
                                          refine L.ite h rfl (Y.neq rfl rfl) (fun c92 h => ?_) (fun c92 h => ?_)
                                          ·
                                            refine L.y rfl (Y.pickT rfl rfl) ?_
                                            refine L.nil ?_
                                            exact E.joinJ ⟨true, rfl, rfl, h⟩ ⟨rfl, rfl, rfl, rfl, rfl, rfl, trivial⟩ (fun _ hw => hw)
                                          ·
                                            refine L.y rfl (Y.pickT rfl rfl) ?_
                                            refine L.nil ?_
                                            exact E.joinJ ⟨false, rfl, rfl, h⟩ ⟨rfl, rfl, rfl, rfl, rfl, rfl, trivial⟩ (fun _ hw => hw)
                                        ·
                                          refine L.y rfl (Y.move rfl) ?_
                                          refine L.pass rfl rfl (by nofun) ?_
                                          refine L.pass rfl rfl (by nofun) ?_
                                          refine L.pass rfl rfl (by nofun) ?_
                                          refine L.pass rfl rfl (by nofun) ?_
                                          refine L.pass rfl rfl (by nofun) ?_
                                          refine L.y rfl (Y.pickF rfl rfl) ?_
                                          refine L.nil ?_
                                          exact E.joinJ ⟨false, rfl, rfl, h⟩ ⟨rfl, rfl, rfl, rfl, rfl, rfl, trivial⟩ (fun _ hw => hw)
                                      ·
                                        rintro _ _ ⟨gb35, rfl, rfl, h⟩
                                        rw [m80_quirref_PactStep_K36] at h
                                        rcases gb35 with _ | _
                                        ·
                                          replace h := iteF h
                                          refine L.y rfl (Y.move rfl) ?_
                                          refine L.pass rfl rfl (by nofun) ?_
                                          refine L.pass rfl rfl (by nofun) ?_
                                          refine L.pass rfl rfl (by nofun) ?_
                                          refine L.pass rfl rfl (by nofun) ?_
                                          refine L.y rfl (Y.pickF rfl rfl) ?_
                                          refine L.y rfl (Y.move rfl) ?_
                                          refine L.pass rfl rfl (by nofun) ?_
                                          refine L.pass rfl rfl (by nofun) ?_
                                          refine L.pass rfl rfl (by nofun) ?_
                                          refine L.pass rfl rfl (by nofun) ?_
                                          refine L.y rfl (Y.pickF rfl rfl) ?_
                                          refine L.y rfl (Y.assign rfl) ?_
                                          refine L.nil ?_
                                          refine E.thenN ?_
                                          refine W.condF rfl ?_
                                          refine W.seq ?_
                                          refine W.region ?_
                                          refine L.cutJ 10 (fun gs D => ∃ (gb36 : Bool), gs = [(2, pt b1 0), (4, pt b3 0), (5, el gv3 (a1.Who.toNat * 1)), (6, el gv3 (a1.By.toNat * 1)), (188, .bool gb36)] ∧ D = Cls w [] [.obj b3 [.int .i64 0, .slice none 0 0, .slice none 0 0] 111, .obj b1 [.int .i64 a0.Lead, gv1, gv3] 111, .sl gv1 3 1 (gl2.map I), .sl gv3 3 1 (gl4.map I)] ∧ m80_quirref_PactStep_K37 x4 x5 gl4 a1 a0 gl2 gb36 = some r) ?_ ?_
                                          ·
                                            refine L.y rfl (Y.fieldP fd113_0 rfl) ?_
                                            refine L.y rfl (Y.loadP (i := 1) ag3 rfl rfl rfl) ?_
                                            refine L.ite h rfl (Y.eql rfl rfl) (fun c79 h => ?_) (fun c79 h => ?_)
                                            ·
                                              refine L.y rfl (Y.move rfl) ?_
                                              refine L.take rfl ?_
                                              refine L.y rfl (Y.fieldP fd113_1 rfl) ?_
                                              refine L.take rfl ?_
                                              refine L.y rfl (Y.loadP (i := 1) ag3 rfl rfl rfl) ?_
                                              refine L.take rfl ?_
                                              refine L.y rfl (Y.fieldP fd113_2 rfl) ?_
                                              refine L.take rfl ?_
                                              refine L.y rfl (Y.loadP (i := 1) ag3 rfl rfl rfl) ?_
                                              refine L.take rfl ?_
                                              refine L.ite h rfl (Y.neq rfl rfl) (fun c80 h => ?_) (fun c80 h => ?_)
                                              ·
                                                refine L.y rfl (Y.pickT rfl rfl) ?_
                                                refine L.nil ?_
                                                exact E.joinJ ⟨true, rfl, rfl, h⟩ ⟨rfl, rfl, rfl, rfl, rfl, trivial⟩ (fun _ hw => hw.sel [0, 2, 3, 4] (by decide) rfl)
                                              ·
                                                refine L.y rfl (Y.pickT rfl rfl) ?_
                                                refine L.nil ?_
                                                exact E.joinJ ⟨false, rfl, rfl, h⟩ ⟨rfl, rfl, rfl, rfl, rfl, trivial⟩ (fun _ hw => hw.sel [0, 2, 3, 4] (by decide) rfl)
                                            ·
                                              refine L.y rfl (Y.move rfl) ?_
                                              refine L.pass rfl rfl (by nofun) ?_
                                              refine L.pass rfl rfl (by nofun) ?_
                                              refine L.pass rfl rfl (by nofun) ?_
                                              refine L.pass rfl rfl (by nofun) ?_
                                              refine L.pass rfl rfl (by nofun) ?_
                                              refine L.y rfl (Y.pickF rfl rfl) ?_
                                              refine L.nil ?_
                                              exact E.joinJ ⟨false, rfl, rfl, h⟩ ⟨rfl, rfl, rfl, rfl, rfl, trivial⟩ (fun _ hw => hw.sel [0, 2, 3, 4] (by decide) rfl)
                                          ·
                                            rintro _ _ ⟨gb36, rfl, rfl, h⟩
                                            rw [m80_quirref_PactStep_K37] at h
                                            rcases gb36 with _ | _
                                            ·
                                              replace h := iteF h
                                              refine L.y rfl (Y.move rfl) ?_
                                              refine L.pass rfl rfl (by nofun) ?_
                                              refine L.pass rfl rfl (by nofun) ?_
                                              refine L.pass rfl rfl (by nofun) ?_
                                              refine L.pass rfl rfl (by nofun) ?_
                                              refine L.y rfl (Y.pickF rfl rfl) ?_
                                              refine L.y rfl (Y.move rfl) ?_
                                              refine L.pass rfl rfl (by nofun) ?_
                                              refine L.pass rfl rfl (by nofun) ?_
                                              refine L.pass rfl rfl (by nofun) ?_
                                              refine L.pass rfl rfl (by nofun) ?_
                                              refine L.y rfl (Y.pickF rfl rfl) ?_
                                              refine L.y rfl (Y.assign rfl) ?_
                                              refine L.nil ?_
                                              refine E.thenN ?_
                                              refine W.condF rfl ?_
                                              refine W.skip ?_
                                              refine E.blockN ?_
                                              exact E.joinJ ⟨a0.Lead, gl2, gl4, rfl, rfl, h⟩ ⟨rfl, rfl, trivial⟩ (fun _ hw => hw)
                                            ·
                                              replace h := iteT h
                                              refine L.cutJ 12 (fun gs D => ∃ (gb37 : Bool), gs = [(2, pt b1 0), (4, pt b3 0), (5, el gv3 (a1.Who.toNat * 1)), (6, el gv3 (a1.By.toNat * 1)), (200, .bool gb37)] ∧ D = Cls w [] [.obj b3 [.int .i64 0, .slice none 0 0, .slice none 0 0] 111, .obj b1 [.int .i64 a0.Lead, gv1, gv3] 111, .sl gv1 3 1 (gl2.map I), .sl gv3 3 1 (gl4.map I)] ∧ m80_quirref_PactStep_K38 gl4 a1 a0 gl2 gb37 = some r) ?_ ?_
                                              ·
                                                refine L.y rfl (Y.move rfl) ?_
                                                refine L.take rfl ?_
                                                refine L.y rfl (Y.move rfl) ?_
                                                refine L.take rfl ?_
                                                refine L.y rfl (Y.nilCheck rfl) ?_
                                                refine L.take rfl ?_
                                                refine L.y rfl (Y.loadE1 (u := .int .i64 x4) ag3 rfl (fun w hw => As.at_ (hw.get (i := 3) rfl)) (idx_map ex4)) ?_
                                                refine L.take rfl ?_
                                                refine L.ite h rfl (Y.eql rfl rfl) (fun c77 h => ?_) (fun c77 h => ?_)
                                                ·
                                                  refine L.y rfl (Y.pickT rfl rfl) ?_
                                                  refine L.y rfl (Y.move rfl) ?_
                                                  refine L.take rfl ?_
                                                  refine L.y rfl (Y.move rfl) ?_
                                                  refine L.take rfl ?_
                                                  refine L.y rfl (Y.nilCheck rfl) ?_
                                                  refine L.take rfl ?_
                                                  refine L.y rfl (Y.loadE1 (u := .int .i64 x5) ag3 rfl (fun w hw => As.at_ (hw.get (i := 3) rfl)) (idx_map ex5)) ?_
                                                  refine L.take rfl ?_
                                                  refine L.ite h rfl (Y.eql rfl rfl) (fun c78 h => ?_) (fun c78 h => ?_)
                                                  ·
                                                    refine L.y rfl (Y.pickT rfl rfl) ?_
                                                    refine L.nil ?_
                                                    exact E.joinJ ⟨true, rfl, rfl, h⟩ ⟨rfl, rfl, rfl, rfl, rfl, trivial⟩ (fun _ hw => hw)
                                                  ·
                                                    refine L.y rfl (Y.pickT rfl rfl) ?_
                                                    refine L.nil ?_
                                                    exact E.joinJ ⟨false, rfl, rfl, h⟩ ⟨rfl, rfl, rfl, rfl, rfl, trivial⟩ (fun _ hw => hw)
                                                ·
                                                  refine L.y rfl (Y.pickT rfl rfl) ?_
                                                  refine L.y rfl (Y.move rfl) ?_
                                                  refine L.pass rfl rfl (by nofun) ?_
                                                  refine L.pass rfl rfl (by nofun) ?_
                                                  refine L.pass rfl rfl (by nofun) ?_
                                                  refine L.pass rfl rfl (by nofun) ?_
                                                  refine L.y rfl (Y.pickF rfl rfl) ?_
                                                  refine L.nil ?_
                                                  exact E.joinJ ⟨false, rfl, rfl, h⟩ ⟨rfl, rfl, rfl, rfl, rfl, trivial⟩ (fun _ hw => hw)
                                              ·
                                                rintro _ _ ⟨gb37, rfl, rfl, h⟩
                                                rw [m80_quirref_PactStep_K38] at h
                                                rcases gb37 with _ | _
                                                ·
                                                  replace h := iteF h
                                                  refine L.y rfl (Y.assign rfl) ?_
                                                  refine L.nil ?_
                                                  refine E.thenN ?_
                                                  refine W.condF rfl ?_
                                                  refine W.skip ?_
                                                  refine E.blockN ?_
                                                  exact E.joinJ ⟨a0.Lead, gl2, gl4, rfl, rfl, h⟩ ⟨rfl, rfl, trivial⟩ (fun _ hw => hw)
                                                ·
                                                  replace h := iteT h
                                                  refine L.y rfl (Y.assign rfl) ?_
                                                  refine L.nil ?_
                                                  refine E.thenN ?_
                                                  refine W.condT rfl ?_
                                                  refine W.region ?_
                                                  refine L.y rfl (Y.move rfl) ?_
                                                  refine L.y rfl (Y.move rfl) ?_
                                                  refine L.y rfl (Y.nilCheck rfl) ?_
                                                  refine L.storeSlM (q := 3) (row := I) (vs := [.int .i64 3]) (j := 0) (u1 := 3) h sz3 rfl rfl rfl rfl rfl (all1 rfl all0) rfl ex4 rfl rfl ?_
                                                  intro l74 el74 h
                                                  refine L.y rfl (Y.nilCheck rfl) ?_
                                                  obtain ⟨x75, ex75, h⟩ := bind1S h
                                                  refine L.storeSlM (q := 3) (row := I) (vs := [.int .i64 3]) (j := 0) (u1 := 3) h sz3 rfl rfl rfl rfl rfl (all1 rfl all0) rfl ex75 rfl rfl ?_
                                                  intro l76 el76 h
                                                  refine L.nil ?_
                                                  refine E.blockN ?_
                                                  exact E.joinJ ⟨a0.Lead, gl2, l76, rfl, rfl, h⟩ ⟨rfl, rfl, trivial⟩ (fun _ hw => hw)
                                        ·
                                          replace h := iteT h
                                          refine L.cutJ 12 (fun gs D => ∃ (gb38 : Bool), gs = [(2, pt b1 0), (3, pt b2 0), (4, pt b3 0), (5, el gv3 (a1.Who.toNat * 1)), (6, el gv3 (a1.By.toNat * 1)), (172, .bool gb38)] ∧ D = Cls w [] [.obj b3 [.int .i64 0, .slice none 0 0, .slice none 0 0] 111, .obj b2 [.int .i64 a1.Kind, .int .i64 a1.Who, .int .i64 a1.By] 113, .obj b1 [.int .i64 a0.Lead, gv1, gv3] 111, .sl gv1 3 1 (gl2.map I), .sl gv3 3 1 (gl4.map I)] ∧ m80_quirref_PactStep_K39 gl4 a1 x5 a0 gl2 x4 gb38 = some r) ?_ ?_
                                          ·
                                            refine L.y rfl (Y.move rfl) ?_
                                            refine L.take rfl ?_
                                            refine L.y rfl (Y.move rfl) ?_
                                            refine L.take rfl ?_
                                            refine L.y rfl (Y.nilCheck rfl) ?_
                                            refine L.take rfl ?_
                                            refine L.y rfl (Y.loadE1 (u := .int .i64 x4) ag3 rfl (fun w hw => As.at_ (hw.get (i := 4) rfl)) (idx_map ex4)) ?_
                                            refine L.take rfl ?_
                                            refine L.ite h rfl (Y.eql rfl rfl) (fun c89 h => ?_) (fun c89 h => ?_)
                                            ·
                                              refine L.y rfl (Y.pickT rfl rfl) ?_
                                              refine L.y rfl (Y.move rfl) ?_
                                              refine L.take rfl ?_
                                              refine L.y rfl (Y.move rfl) ?_
                                              refine L.take rfl ?_
                                              refine L.y rfl (Y.nilCheck rfl) ?_
                                              refine L.take rfl ?_
                                              refine L.y rfl (Y.loadE1 (u := .int .i64 x5) ag3 rfl (fun w hw => As.at_ (hw.get (i := 4) rfl)) (idx_map ex5)) ?_
                                              refine L.take rfl ?_
                                              refine L.ite h rfl (Y.gtr rfl rfl) (fun c90 h => ?_) (fun c90 h => ?_)
                                              ·
                                                refine L.y rfl (Y.pickT rfl rfl) ?_
                                                refine L.nil ?_
                                                exact E.joinJ ⟨true, rfl, rfl, h⟩ ⟨rfl, rfl, rfl, rfl, rfl, rfl, trivial⟩ (fun _ hw => hw)
                                              ·
                                                refine L.y rfl (Y.pickT rfl rfl) ?_
                                                refine L.nil ?_
                                                exact E.joinJ ⟨false, rfl, rfl, h⟩ ⟨rfl, rfl, rfl, rfl, rfl, rfl, trivial⟩ (fun _ hw => hw)
                                            ·
                                              refine L.y rfl (Y.pickT rfl rfl) ?_
                                              refine L.y rfl (Y.move rfl) ?_
                                              refine L.pass rfl rfl (by nofun) ?_
                                              refine L.pass rfl rfl (by nofun) ?_
                                              refine L.pass rfl rfl (by nofun) ?_
                                              refine L.pass rfl rfl (by nofun) ?_
                                              refine L.y rfl (Y.pickF rfl rfl) ?_
                                              refine L.nil ?_
                                              exact E.joinJ ⟨false, rfl, rfl, h⟩ ⟨rfl, rfl, rfl, rfl, rfl, rfl, trivial⟩ (fun _ hw => hw)
                                          ·
                                            rintro _ _ ⟨gb38, rfl, rfl, h⟩
                                            rw [m80_quirref_PactStep_K39] at h
                                            rcases gb38 with _ | _
                                            ·
                                              replace h := iteF h
                                              refine L.y rfl (Y.assign rfl) ?_
                                              refine L.nil ?_
                                              refine E.thenN ?_
                                              refine W.condF rfl ?_
                                              refine W.seq ?_
                                              refine W.region ?_
                                              refine L.cutJ 10 (fun gs D => ∃ (gb39 : Bool), gs = [(2, pt b1 0), (4, pt b3 0), (5, el gv3 (a1.Who.toNat * 1)), (6, el gv3 (a1.By.toNat * 1)), (188, .bool gb39)] ∧ D = Cls w [] [.obj b3 [.int .i64 0, .slice none 0 0, .slice none 0 0] 111, .obj b1 [.int .i64 a0.Lead, gv1, gv3] 111, .sl gv1 3 1 (gl2.map I), .sl gv3 3 1 (gl4.map I)] ∧ m80_quirref_PactStep_K40 x4 x5 gl4 a1 a0 gl2 gb39 = some r) ?_ ?_
                                              ·
                                                refine L.y rfl (Y.fieldP fd113_0 rfl) ?_
                                                refine L.y rfl (Y.loadP (i := 1) ag3 rfl rfl rfl) ?_
                                                refine L.ite h rfl (Y.eql rfl rfl) (fun c86 h => ?_) (fun c86 h => ?_)
                                                ·
                                                  refine L.y rfl (Y.move rfl) ?_
                                                  refine L.take rfl ?_
                                                  refine L.y rfl (Y.fieldP fd113_1 rfl) ?_
                                                  refine L.take rfl ?_
                                                  refine L.y rfl (Y.loadP (i := 1) ag3 rfl rfl rfl) ?_
                                                  refine L.take rfl ?_
                                                  refine L.y rfl (Y.fieldP fd113_2 rfl) ?_
                                                  refine L.take rfl ?_
                                                  refine L.y rfl (Y.loadP (i := 1) ag3 rfl rfl rfl) ?_
                                                  refine L.take rfl ?_
                                                  refine L.ite h rfl (Y.neq rfl rfl) (fun c87 h => ?_) (fun c87 h => ?_)
                                                  ·
                                                    refine L.y rfl (Y.pickT rfl rfl) ?_
                                                    refine L.nil ?_
                                                    exact E.joinJ ⟨true, rfl, rfl, h⟩ ⟨rfl, rfl, rfl, rfl, rfl, trivial⟩ (fun _ hw => hw.sel [0, 2, 3, 4] (by decide) rfl)
                                                  ·
                                                    refine L.y rfl (Y.pickT rfl rfl) ?_
                                                    refine L.nil ?_
                                                    exact E.joinJ ⟨false, rfl, rfl, h⟩ ⟨rfl, rfl, rfl, rfl, rfl, trivial⟩ (fun _ hw => hw.sel [0, 2, 3, 4] (by decide) rfl)
                                                ·
                                                  refine L.y rfl (Y.move rfl) ?_
                                                  refine L.pass rfl rfl (by nofun) ?_
                                                  refine L.pass rfl rfl (by nofun) ?_
                                                  refine L.pass rfl rfl (by nofun) ?_
                                                  refine L.pass rfl rfl (by nofun) ?_
                                                  refine L.pass rfl rfl (by nofun) ?_
                                                  refine L.y rfl (Y.pickF rfl rfl) ?_
                                                  refine L.nil ?_
                                                  exact E.joinJ ⟨false, rfl, rfl, h⟩ ⟨rfl, rfl, rfl, rfl, rfl, trivial⟩ (fun _ hw => hw.sel [0, 2, 3, 4] (by decide) rfl)
                                              ·
                                                rintro _ _ ⟨gb39, rfl, rfl, h⟩
                                                rw [m80_quirref_PactStep_K40] at h
                                                rcases gb39 with _ | _
                                                ·
                                                  replace h := iteF h
                                                  refine L.y rfl (Y.move rfl) ?_
                                                  refine L.pass rfl rfl (by nofun) ?_
                                                  refine L.pass rfl rfl (by nofun) ?_
                                                  refine L.pass rfl rfl (by nofun) ?_
                                                  refine L.pass rfl rfl (by nofun) ?_
                                                  refine L.y rfl (Y.pickF rfl rfl) ?_
                                                  refine L.y rfl (Y.move rfl) ?_
                                                  refine L.pass rfl rfl (by nofun) ?_
                                                  refine L.pass rfl rfl (by nofun) ?_
                                                  refine L.pass rfl rfl (by nofun) ?_
                                                  refine L.pass rfl rfl (by nofun) ?_
                                                  refine L.y rfl (Y.pickF rfl rfl) ?_
                                                  refine L.y rfl (Y.assign rfl) ?_
                                                  refine L.nil ?_
                                                  refine E.thenN ?_
                                                  refine W.condF rfl ?_
                                                  refine W.skip ?_
                                                  refine E.blockN ?_
                                                  exact E.joinJ ⟨a0.Lead, gl2, gl4, rfl, rfl, h⟩ ⟨rfl, rfl, trivial⟩ (fun _ hw => hw)
                                                ·
                                                  replace h := iteT h
                                                  refine L.cutJ 12 (fun gs D => ∃ (gb40 : Bool), gs = [(2, pt b1 0), (4, pt b3 0), (5, el gv3 (a1.Who.toNat * 1)), (6, el gv3 (a1.By.toNat * 1)), (200, .bool gb40)] ∧ D = Cls w [] [.obj b3 [.int .i64 0, .slice none 0 0, .slice none 0 0] 111, .obj b1 [.int .i64 a0.Lead, gv1, gv3] 111, .sl gv1 3 1 (gl2.map I), .sl gv3 3 1 (gl4.map I)] ∧ m80_quirref_PactStep_K41 gl4 a1 a0 gl2 gb40 = some r) ?_ ?_
                                                  ·
                                                    refine L.y rfl (Y.move rfl) ?_
                                                    refine L.take rfl ?_
                                                    refine L.y rfl (Y.move rfl) ?_
                                                    refine L.take rfl ?_
                                                    refine L.y rfl (Y.nilCheck rfl) ?_
                                                    refine L.take rfl ?_
                                                    refine L.y rfl (Y.loadE1 (u := .int .i64 x4) ag3 rfl (fun w hw => As.at_ (hw.get (i := 3) rfl)) (idx_map ex4)) ?_
                                                    refine L.take rfl ?_
                                                    refine L.ite h rfl (Y.eql rfl rfl) (fun c84 h => ?_) (fun c84 h => ?_)
                                                    ·
                                                      refine L.y rfl (Y.pickT rfl rfl) ?_
                                                      refine L.y rfl (Y.move rfl) ?_
                                                      refine L.take rfl ?_
                                                      refine L.y rfl (Y.move rfl) ?_
                                                      refine L.take rfl ?_
                                                      refine L.y rfl (Y.nilCheck rfl) ?_
                                                      refine L.take rfl ?_
                                                      refine L.y rfl (Y.loadE1 (u := .int .i64 x5) ag3 rfl (fun w hw => As.at_ (hw.get (i := 3) rfl)) (idx_map ex5)) ?_
                                                      refine L.take rfl ?_
                                                      refine L.ite h rfl (Y.eql rfl rfl) (fun c85 h => ?_) (fun c85 h => ?_)
                                                      ·
                                                        refine L.y rfl (Y.pickT rfl rfl) ?_
                                                        refine L.nil ?_
                                                        exact E.joinJ ⟨true, rfl, rfl, h⟩ ⟨rfl, rfl, rfl, rfl, rfl, trivial⟩ (fun _ hw => hw)
                                                      ·
                                                        refine L.y rfl (Y.pickT rfl rfl) ?_
                                                        refine L.nil ?_
                                                        exact E.joinJ ⟨false, rfl, rfl, h⟩ ⟨rfl, rfl, rfl, rfl, rfl, trivial⟩ (fun _ hw => hw)
                                                    ·
                                                      refine L.y rfl (Y.pickT rfl rfl) ?_
                                                      refine L.y rfl (Y.move rfl) ?_
                                                      refine L.pass rfl rfl (by nofun) ?_
                                                      refine L.pass rfl rfl (by nofun) ?_
                                                      refine L.pass rfl rfl (by nofun) ?_
                                                      refine L.pass rfl rfl (by nofun) ?_
                                                      refine L.y rfl (Y.pickF rfl rfl) ?_
                                                      refine L.nil ?_
                                                      exact E.joinJ ⟨false, rfl, rfl, h⟩ ⟨rfl, rfl, rfl, rfl, rfl, trivial⟩ (fun _ hw => hw)
                                                  ·
                                                    rintro _ _ ⟨gb40, rfl, rfl, h⟩
                                                    rw [m80_quirref_PactStep_K41] at h
                                                    rcases gb40 with _ | _
                                                    ·
                                                      replace h := iteF h
                                                      refine L.y rfl (Y.assign rfl) ?_
                                                      refine L.nil ?_
                                                      refine E.thenN ?_
                                                      refine W.condF rfl ?_
                                                      refine W.skip ?_
                                                      refine E.blockN ?_
                                                      exact E.joinJ ⟨a0.Lead, gl2, gl4, rfl, rfl, h⟩ ⟨rfl, rfl, trivial⟩ (fun _ hw => hw)
                                                    ·
                                                      replace h := iteT h
                                                      refine L.y rfl (Y.assign rfl) ?_
                                                      refine L.nil ?_
                                                      refine E.thenN ?_
                                                      refine W.condT rfl ?_
                                                      refine W.region ?_
                                                      refine L.y rfl (Y.move rfl) ?_
                                                      refine L.y rfl (Y.move rfl) ?_
                                                      refine L.y rfl (Y.nilCheck rfl) ?_
                                                      refine L.storeSlM (q := 3) (row := I) (vs := [.int .i64 3]) (j := 0) (u1 := 3) h sz3 rfl rfl rfl rfl rfl (all1 rfl all0) rfl ex4 rfl rfl ?_
                                                      intro l81 el81 h
                                                      refine L.y rfl (Y.nilCheck rfl) ?_
                                                      obtain ⟨x82, ex82, h⟩ := bind1S h
                                                      refine L.storeSlM (q := 3) (row := I) (vs := [.int .i64 3]) (j := 0) (u1 := 3) h sz3 rfl rfl rfl rfl rfl (all1 rfl all0) rfl ex82 rfl rfl ?_
                                                      intro l83 el83 h
                                                      refine L.nil ?_
                                                      refine E.blockN ?_
                                                      exact E.joinJ ⟨a0.Lead, gl2, l83, rfl, rfl, h⟩ ⟨rfl, rfl, trivial⟩ (fun _ hw => hw)
                                            ·
                                              replace h := iteT h
                                              refine L.y rfl (Y.assign rfl) ?_
                                              refine L.nil ?_
                                              refine E.thenN ?_
                                              refine W.condT rfl ?_
                                              refine W.region ?_
                                              refine L.y rfl (Y.move rfl) ?_
                                              refine L.y rfl (Y.move rfl) ?_
                                              refine L.y rfl (Y.nilCheck rfl) ?_
                                              refine L.y rfl (Y.loadE1 (u := .int .i64 x5) ag3 rfl (fun w hw => As.at_ (hw.get (i := 4) rfl)) (idx_map ex5)) ?_
                                              refine L.y rfl (Y.nilCheck rfl) ?_
                                              refine L.storeSlM (q := 4) (row := I) (vs := [.int .i64 x5]) (j := 0) (u1 := x5) h sz3 rfl rfl rfl rfl rfl (all1 rfl all0) rfl ex4 rfl rfl ?_
                                              intro l88 el88 h
                                              refine L.nil ?_
                                              refine E.blockN ?_
                                              exact E.joinJ ⟨a0.Lead, gl2, l88, rfl, rfl, h⟩ ⟨rfl, rfl, trivial⟩ (fun _ hw => hw.sel [0, 2, 3, 4] (by decide) rfl)
                                  ·
                                    replace h := iteT h
                                    refine L.y rfl (Y.assign rfl) ?_
                                    refine L.nil ?_
                                    refine E.thenN ?_
                                    refine W.condT rfl ?_
                                    refine W.region ?_
                                    refine L.y rfl (Y.fieldP fd111_0 rfl) ?_
                                    refine L.store (i := 2) sz3 rfl rfl rfl rfl (by simp [Value.oneCell', Value.cells, st]) rfl (Nat.le_of_ble_eq_true rfl) ?_
                                    refine L.nil ?_
                                    refine E.blockN ?_
                                    exact E.joinJ ⟨1, gl2, gl4, rfl, rfl, h⟩ ⟨rfl, rfl, trivial⟩ (fun _ hw => hw.sel [0, 2, 3, 4] (by decide) rfl)
                              ·
                                replace h := iteT h
                                refine W.condT rfl ?_
                                refine W.region ?_
                                refine L.y rfl (Y.fieldP fd111_0 rfl) ?_
                                refine L.store (i := 2) sz3 rfl rfl rfl rfl (by simp [Value.oneCell', Value.cells, st]) rfl (Nat.le_of_ble_eq_true rfl) ?_
                                refine L.nil ?_
                                refine E.blockN ?_
                                exact E.joinJ ⟨2, gl2, gl4, rfl, rfl, h⟩ ⟨rfl, rfl, trivial⟩ (fun _ hw => hw.sel [0, 2, 3, 4] (by decide) rfl)
                    ·
                      replace h := iteT h
                      refine L.y rfl (Y.assign rfl) ?_
                      refine L.nil ?_
                      refine E.thenN ?_
                      refine W.condT rfl ?_
                      refine W.region ?_
                      refine L.y rfl (Y.fieldP fd111_1 rfl) ?_
                      refine L.y rfl (Y.loadP (i := 2) ag24 rfl rfl rfl) ?_
                      refine L.y rfl (Y.fieldP fd113_1 rfl) ?_
                      refine L.y rfl (Y.loadP (i := 1) ag3 rfl rfl rfl) ?_
                      refine L.m (V := fun _ => el gv1 (a1.Who.toNat * 1)) h rfl (Y.indexM (g := I) (l := gl2) Try.underlying24 sz3 rfl rfl (fun w hw => As.at_ (hw.get (i := 3) rfl))) (fun x105 ex105 h => ?_)
                      refine L.storeSlM (q := 3) (row := I) (vs := [.int .i64 1]) (j := 0) (u1 := 1) h sz3 rfl rfl rfl rfl rfl (all1 rfl all0) rfl ex105 rfl rfl ?_
                      intro l106 el106 h
                      refine L.nil ?_
                      refine E.blockN ?_
                      exact E.joinJ ⟨a0.Lead, l106, gl4, rfl, rfl, h⟩ ⟨rfl, rfl, trivial⟩ (fun _ hw => hw.sel [0, 2, 3, 4] (by decide) rfl)
                ·
                  replace h := iteT h
                  refine L.y rfl (Y.assign rfl) ?_
                  refine L.nil ?_
                  refine E.thenN ?_
                  refine W.condT rfl ?_
                  refine W.region ?_
                  refine L.y rfl (Y.move rfl) ?_
                  refine L.y rfl (Y.nilCheck rfl) ?_
                  refine L.storeSlM (q := 4) (row := I) (vs := [.int .i64 3]) (j := 0) (u1 := 3) h sz3 rfl rfl rfl rfl rfl (all1 rfl all0) rfl ex4 rfl rfl ?_
                  intro l109 el109 h
                  refine L.nil ?_
                  refine E.blockN ?_
                  exact E.joinJ ⟨a0.Lead, gl2, l109, rfl, rfl, h⟩ ⟨rfl, rfl, trivial⟩ (fun _ hw => hw.sel [0, 2, 3, 4] (by decide) rfl)
            ·
              replace h := iteT h
              refine L.y rfl (Y.assign rfl) ?_
              refine L.nil ?_
              refine E.thenN ?_
              refine W.condT rfl ?_
              refine W.region ?_
              refine L.y rfl (Y.move rfl) ?_
              refine L.y rfl (Y.nilCheck rfl) ?_
              refine L.storeSlM (q := 4) (row := I) (vs := [.int .i64 1]) (j := 0) (u1 := 1) h sz3 rfl rfl rfl rfl rfl (all1 rfl all0) rfl ex4 rfl rfl ?_
              intro l112 el112 h
              refine L.nil ?_
              refine E.blockN ?_
              exact E.joinJ ⟨a0.Lead, gl2, l112, rfl, rfl, h⟩ ⟨rfl, rfl, trivial⟩ (fun _ hw => hw.sel [0, 2, 3, 4] (by decide) rfl)
        ·
          rintro _ _ ⟨gx16, gl17, gl18, rfl, rfl, h⟩
          rw [m80_quirref_PactStep_K17] at h
          refine W.seq ?_
          refine W.region ?_
          refine L.y rfl (Y.loadPW (i := 1) ag111 sz111 rfl rfl rfl) ?_
          refine L.storeC (i := 0) sz111 rfl rfl rfl rfl (fun w hw => (all1 rfl (all1 (As.at_ (hw.get (i := 2) rfl)).one (all1 (As.at_ (hw.get (i := 3) rfl)).one all0)))) rfl (Nat.le_of_ble_eq_true rfl) ?_
          refine L.nil ?_
          refine E.thenN ?_
          refine W.ret ?_
          refine E.retR1 rfl (Rv.cellW (i := 0) ag111 sz111 rfl rfl rfl) (fun w1 hw => ?_)
          obtain rfl := Option.some.inj h
          exact ⟨_, _, rfl, ⟨_, _, rfl, rfl⟩, hw.sel [2, 3] (by decide) rfl⟩
end Go.Proofs.Ytfmgjigdebofaaa
