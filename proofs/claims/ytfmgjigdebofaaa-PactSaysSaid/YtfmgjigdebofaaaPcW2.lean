/-
  Walks, printed by a program of mine.
  Conditions: none.
-/
import Derived.Test.YtfmgjigdebofaaaPcW1
import Derived.Test.YtfmgjigdebofaaaChecked
import Derived.KernelRfl
namespace Go.Proofs.Ytfmgjigdebofaaa
open Go.S
set_option linter.unusedVariables false
set_option linter.unusedSimpArgs false
set_option maxRecDepth 100000 in
set_option maxHeartbeats 8000000 in
theorem w74_pact_Step (a0 : TPact) (a1 : TBeat) (u0_0 : Value) (u0_1 : Value) (w : World) (r : (TPact × Int)) (h : m74_pact_Step a0 a1 = some r) (hA0_0 : At w u0_0 1 (a0.Votes.map I)) (hA0_1 : At w u0_1 1 (a0.Parts.map I)) : Does Try.prog 74 [.agg #[.int .i64 a0.Lead, u0_0, u0_1], .agg #[.int .i64 a1.Kind, .int .i64 a1.Who, .int .i64 a1.By]] w fun u m => ∃ v0 v1, u = .tuple #[.agg #[.int .i64 r.1.Lead, v0, v1], .int .i64 r.2] ∧ m = [.sl v0 3 1 (r.1.Votes.map I), .sl v1 3 1 (r.1.Parts.map I)] := by
  rw [m74_pact_Step] at h
  refine body (n := 111) Try.func74 rfl rfl rfl (Cls.refl w) ?_
  refine W.seq ?_
  refine W.region ?_
  refine L.box rfl rfl ?_
  intro b1
  refine L.box rfl rfl ?_
  intro b2
  refine L.alloc rfl ze111 ?_
  intro b3
  refine L.y rfl (Y.assign rfl) ?_
  refine L.nil ?_
  refine E.thenN ?_
  refine W.seqJ (fun gs D => gs = [(2, pt b1 0), (3, pt b2 0), (4, pt b3 0)] ∧ D = Cls w [] [.obj b3 [.int .i64 0, .slice none 0 0, .slice none 0 0] 111, .obj b2 [.int .i64 a1.Kind, .int .i64 a1.Who, .int .i64 a1.By] 113, .obj b1 [.int .i64 a0.Lead, u0_0, u0_1] 111] ∧ m74_pact_Step_K1 a1 a0 = some r) ?_ ?_
  ·
    refine W.seq ?_
    refine W.region ?_
    refine L.y rfl (Y.loadPW (i := 2) ag111 sz111 rfl rfl rfl) ?_
    obtain ⟨x171, e172, h⟩ := bind1S h
    refine L.y rfl (Y.does en77 rfl (fun w' hw => (w77_pact_Check a0 u0_0 u0_1 w' _ e172 (hA0_0.cls0 hw) (hA0_1.cls0 hw)).mono (fun _ _ h => h.1))) ?_
    refine L.y rfl (Y.assign rfl) ?_
    refine L.nil ?_
    refine E.thenN ?_
    refine W.seq ?_
    refine W.region ?_
    refine L.y rfl (Y.move rfl) ?_
    refine L.ite h rfl (Y.neq rfl rfl) (fun c173 h => ?_) (fun c173 h => ?_)
    ·
      refine L.nil ?_
      refine E.thenN ?_
      refine W.condT rfl ?_
      refine W.seq ?_
      refine W.region ?_
      refine L.y rfl (Y.build (cells := #[.int .i64 0, .slice none 0 0, .slice none 0 0]) rfl (by kernel_rfl)) ?_
      refine L.y rfl (Y.move rfl) ?_
      refine L.store (i := 0) sz111 rfl rfl rfl rfl (by simp [Value.oneCell', Value.cells, st]) rfl (Nat.le_of_ble_eq_true rfl) ?_
      refine L.y rfl (Y.assign rfl) ?_
      refine L.nil ?_
      refine E.thenN ?_
      refine W.ret ?_
      refine E.KSR ?_
      refine E.retR2 rfl (Rv.cellW (i := 0) ag111 sz111 rfl rfl rfl) (Rv.tmp rfl) (fun w1 hw => ?_)
      obtain rfl := Option.some.inj h
      exact ⟨_, _, rfl, ⟨_, _, rfl, rfl⟩, ((hw.nilSl 3 1).nilSl 3 1).sel [1, 0] (by decide) rfl⟩
    ·
      refine L.nil ?_
      refine E.thenN ?_
      refine W.condF rfl ?_
      refine W.skip ?_
      exact E.joinJ ⟨rfl, rfl, h⟩ ⟨rfl, rfl, rfl, trivial⟩ (fun _ hw => hw)
  ·
    rintro _ _ ⟨rfl, rfl, h⟩
    rw [m74_pact_Step_K1] at h
    refine W.seq ?_
    refine W.region ?_
    refine L.y rfl (Y.fieldP fd111_2 rfl) ?_
    refine L.y rfl (Y.loadP (i := 2) ag24 rfl rfl rfl) ?_
    refine L.y rfl (Y.lenM (g := I) (l := a0.Parts) Try.underlying24 rfl (fun w' hw => hA0_1.cls0 hw)) ?_
    refine L.y rfl (Y.assign rfl) ?_
    refine L.nil ?_
    refine E.thenN ?_
    refine W.seqJ (fun gs D => gs = [(2, pt b1 0), (3, pt b2 0), (4, pt b3 0)] ∧ D = Cls w [] [.obj b3 [.int .i64 0, .slice none 0 0, .slice none 0 0] 111, .obj b2 [.int .i64 a1.Kind, .int .i64 a1.Who, .int .i64 a1.By] 113, .obj b1 [.int .i64 a0.Lead, u0_0, u0_1] 111] ∧ m74_pact_Step_K2 a0 a1 = some r) ?_ ?_
    ·
      refine W.seq ?_
      refine W.region ?_
      refine L.cutJ 9 (fun gs D => ∃ (gb37 : Bool), gs = [(2, pt b1 0), (3, pt b2 0), (4, pt b3 0), (7, .int .i64 (a0.Parts.length : Int)), (27, .bool gb37)] ∧ D = Cls w [] [.obj b3 [.int .i64 0, .slice none 0 0, .slice none 0 0] 111, .obj b2 [.int .i64 a1.Kind, .int .i64 a1.Who, .int .i64 a1.By] 113, .obj b1 [.int .i64 a0.Lead, u0_0, u0_1] 111] ∧ m74_pact_Step_K33 a1 a0 gb37 = some r) ?_ ?_
      ·
        refine L.y rfl (Y.fieldP fd113_1 rfl) ?_
        refine L.y rfl (Y.loadP (i := 1) ag3 rfl rfl rfl) ?_
        refine L.ite h rfl (Y.lss rfl rfl) (fun c169 h => ?_) (fun c169 h => ?_)
        ·
          refine L.y rfl (Y.move rfl) ?_
          refine L.pass rfl rfl (by nofun) ?_
          refine L.pass rfl rfl (by nofun) ?_
          refine L.pass rfl rfl (by nofun) ?_
          refine L.pass rfl rfl (by nofun) ?_
          refine L.y rfl (Y.pickT rfl rfl) ?_
          refine L.nil ?_
          exact E.joinJ ⟨true, rfl, rfl, h⟩ ⟨rfl, rfl, rfl, rfl, rfl, trivial⟩ (fun _ hw => hw)
        ·
          refine L.y rfl (Y.move rfl) ?_
          refine L.take rfl ?_
          refine L.y rfl (Y.fieldP fd113_1 rfl) ?_
          refine L.take rfl ?_
          refine L.y rfl (Y.loadP (i := 1) ag3 rfl rfl rfl) ?_
          refine L.take rfl ?_
          refine L.y rfl (Y.move rfl) ?_
          refine L.take rfl ?_
          refine L.ite h rfl (Y.geq rfl rfl) (fun c170 h => ?_) (fun c170 h => ?_)
          ·
            refine L.y rfl (Y.pickF rfl rfl) ?_
            refine L.nil ?_
            exact E.joinJ ⟨true, rfl, rfl, h⟩ ⟨rfl, rfl, rfl, rfl, rfl, trivial⟩ (fun _ hw => hw)
          ·
            refine L.y rfl (Y.pickF rfl rfl) ?_
            refine L.nil ?_
            exact E.joinJ ⟨false, rfl, rfl, h⟩ ⟨rfl, rfl, rfl, rfl, rfl, trivial⟩ (fun _ hw => hw)
      ·
        rintro _ _ ⟨gb37, rfl, rfl, h⟩
        rw [m74_pact_Step_K33] at h
        rcases gb37 with _ | _
        ·
          replace h := iteF h
          refine L.cutJ 11 (fun gs D => ∃ (gb38 : Bool), gs = [(2, pt b1 0), (3, pt b2 0), (4, pt b3 0), (38, .bool gb38)] ∧ D = Cls w [] [.obj b3 [.int .i64 0, .slice none 0 0, .slice none 0 0] 111, .obj b2 [.int .i64 a1.Kind, .int .i64 a1.Who, .int .i64 a1.By] 113, .obj b1 [.int .i64 a0.Lead, u0_0, u0_1] 111] ∧ m74_pact_Step_K34 a1 a0 gb38 = some r) ?_ ?_
          ·
            refine L.y rfl (Y.move rfl) ?_
            refine L.take rfl ?_
            refine L.y rfl (Y.fieldP fd113_2 rfl) ?_
            refine L.take rfl ?_
            refine L.y rfl (Y.loadP (i := 1) ag3 rfl rfl rfl) ?_
            refine L.take rfl ?_
            refine L.ite h rfl (Y.lss rfl rfl) (fun c167 h => ?_) (fun c167 h => ?_)
            ·
              refine L.y rfl (Y.pickF rfl rfl) ?_
              refine L.y rfl (Y.move rfl) ?_
              refine L.pass rfl rfl (by nofun) ?_
              refine L.pass rfl rfl (by nofun) ?_
              refine L.pass rfl rfl (by nofun) ?_
              refine L.pass rfl rfl (by nofun) ?_
              refine L.y rfl (Y.pickT rfl rfl) ?_
              refine L.nil ?_
              exact E.joinJ ⟨true, rfl, rfl, h⟩ ⟨rfl, rfl, rfl, rfl, trivial⟩ (fun _ hw => hw)
            ·
              refine L.y rfl (Y.pickF rfl rfl) ?_
              refine L.y rfl (Y.move rfl) ?_
              refine L.take rfl ?_
              refine L.y rfl (Y.fieldP fd113_2 rfl) ?_
              refine L.take rfl ?_
              refine L.y rfl (Y.loadP (i := 1) ag3 rfl rfl rfl) ?_
              refine L.take rfl ?_
              refine L.y rfl (Y.move rfl) ?_
              refine L.take rfl ?_
              refine L.ite h rfl (Y.geq rfl rfl) (fun c168 h => ?_) (fun c168 h => ?_)
              ·
                refine L.y rfl (Y.pickF rfl rfl) ?_
                refine L.nil ?_
                exact E.joinJ ⟨true, rfl, rfl, h⟩ ⟨rfl, rfl, rfl, rfl, trivial⟩ (fun _ hw => hw)
              ·
                refine L.y rfl (Y.pickF rfl rfl) ?_
                refine L.nil ?_
                exact E.joinJ ⟨false, rfl, rfl, h⟩ ⟨rfl, rfl, rfl, rfl, trivial⟩ (fun _ hw => hw)
          ·
            rintro _ _ ⟨gb38, rfl, rfl, h⟩
            rw [m74_pact_Step_K34] at h
            rcases gb38 with _ | _
            ·
              replace h := iteF h
              refine L.y rfl (Y.move rfl) ?_
              refine L.take rfl ?_
              refine L.y rfl (Y.fieldP fd113_0 rfl) ?_
              refine L.take rfl ?_
              refine L.y rfl (Y.loadP (i := 1) ag3 rfl rfl rfl) ?_
              refine L.take rfl ?_
              refine L.ite h rfl (Y.lss rfl rfl) (fun c165 h => ?_) (fun c165 h => ?_)
              ·
                refine L.y rfl (Y.pickF rfl rfl) ?_
                refine L.y rfl (Y.move rfl) ?_
                refine L.pass rfl rfl (by nofun) ?_
                refine L.pass rfl rfl (by nofun) ?_
                refine L.pass rfl rfl (by nofun) ?_
                refine L.y rfl (Y.pickT rfl rfl) ?_
                refine L.nil ?_
                refine E.thenN ?_
                refine W.condT rfl ?_
                refine W.seq ?_
                refine W.region ?_
                refine L.y rfl (Y.build (cells := #[.int .i64 0, .slice none 0 0, .slice none 0 0]) rfl (by kernel_rfl)) ?_
                refine L.store (i := 0) sz111 rfl rfl rfl rfl (by simp [Value.oneCell', Value.cells, st]) rfl (Nat.le_of_ble_eq_true rfl) ?_
                refine L.y rfl (Y.assign rfl) ?_
                refine L.nil ?_
                refine E.thenN ?_
                refine W.ret ?_
                refine E.KSR ?_
                refine E.retR2 rfl (Rv.cellW (i := 0) ag111 sz111 rfl rfl rfl) (Rv.tmp rfl) (fun w1 hw => ?_)
                obtain rfl := Option.some.inj h
                exact ⟨_, _, rfl, ⟨_, _, rfl, rfl⟩, ((hw.nilSl 3 1).nilSl 3 1).sel [1, 0] (by decide) rfl⟩
              ·
                refine L.y rfl (Y.pickF rfl rfl) ?_
                refine L.y rfl (Y.move rfl) ?_
                refine L.take rfl ?_
                refine L.y rfl (Y.fieldP fd113_0 rfl) ?_
                refine L.take rfl ?_
                refine L.y rfl (Y.loadP (i := 1) ag3 rfl rfl rfl) ?_
                refine L.take rfl ?_
                refine L.ite h rfl (Y.gtr rfl rfl) (fun c166 h => ?_) (fun c166 h => ?_)
                ·
                  refine L.y rfl (Y.pickF rfl rfl) ?_
                  refine L.nil ?_
                  refine E.thenN ?_
                  refine W.condT rfl ?_
                  refine W.seq ?_
                  refine W.region ?_
                  refine L.y rfl (Y.build (cells := #[.int .i64 0, .slice none 0 0, .slice none 0 0]) rfl (by kernel_rfl)) ?_
                  refine L.store (i := 0) sz111 rfl rfl rfl rfl (by simp [Value.oneCell', Value.cells, st]) rfl (Nat.le_of_ble_eq_true rfl) ?_
                  refine L.y rfl (Y.assign rfl) ?_
                  refine L.nil ?_
                  refine E.thenN ?_
                  refine W.ret ?_
                  refine E.KSR ?_
                  refine E.retR2 rfl (Rv.cellW (i := 0) ag111 sz111 rfl rfl rfl) (Rv.tmp rfl) (fun w1 hw => ?_)
                  obtain rfl := Option.some.inj h
                  exact ⟨_, _, rfl, ⟨_, _, rfl, rfl⟩, ((hw.nilSl 3 1).nilSl 3 1).sel [1, 0] (by decide) rfl⟩
                ·
                  refine L.y rfl (Y.pickF rfl rfl) ?_
                  refine L.nil ?_
                  refine E.thenN ?_
                  refine W.condF rfl ?_
                  refine W.skip ?_
                  exact E.joinJ ⟨rfl, rfl, h⟩ ⟨rfl, rfl, rfl, trivial⟩ (fun _ hw => hw)
            ·
              replace h := iteT h
              refine L.y rfl (Y.move rfl) ?_
              refine L.pass rfl rfl (by nofun) ?_
              refine L.pass rfl rfl (by nofun) ?_
              refine L.pass rfl rfl (by nofun) ?_
              refine L.y rfl (Y.pickT rfl rfl) ?_
              refine L.y rfl (Y.move rfl) ?_
              refine L.pass rfl rfl (by nofun) ?_
              refine L.pass rfl rfl (by nofun) ?_
              refine L.pass rfl rfl (by nofun) ?_
              refine L.y rfl (Y.pickT rfl rfl) ?_
              refine L.nil ?_
              refine E.thenN ?_
              refine W.condT rfl ?_
              refine W.seq ?_
              refine W.region ?_
              refine L.y rfl (Y.build (cells := #[.int .i64 0, .slice none 0 0, .slice none 0 0]) rfl (by kernel_rfl)) ?_
              refine L.store (i := 0) sz111 rfl rfl rfl rfl (by simp [Value.oneCell', Value.cells, st]) rfl (Nat.le_of_ble_eq_true rfl) ?_
              refine L.y rfl (Y.assign rfl) ?_
              refine L.nil ?_
              refine E.thenN ?_
              refine W.ret ?_
              refine E.KSR ?_
              refine E.retR2 rfl (Rv.cellW (i := 0) ag111 sz111 rfl rfl rfl) (Rv.tmp rfl) (fun w1 hw => ?_)
              obtain rfl := Option.some.inj h
              exact ⟨_, _, rfl, ⟨_, _, rfl, rfl⟩, ((hw.nilSl 3 1).nilSl 3 1).sel [1, 0] (by decide) rfl⟩
        ·
          replace h := iteT h
          refine L.y rfl (Y.move rfl) ?_
          refine L.pass rfl rfl (by nofun) ?_
          refine L.pass rfl rfl (by nofun) ?_
          refine L.pass rfl rfl (by nofun) ?_
          refine L.y rfl (Y.pickT rfl rfl) ?_
          refine L.y rfl (Y.move rfl) ?_
          refine L.pass rfl rfl (by nofun) ?_
          refine L.pass rfl rfl (by nofun) ?_
          refine L.pass rfl rfl (by nofun) ?_
          refine L.pass rfl rfl (by nofun) ?_
          refine L.y rfl (Y.pickT rfl rfl) ?_
          refine L.y rfl (Y.move rfl) ?_
          refine L.pass rfl rfl (by nofun) ?_
          refine L.pass rfl rfl (by nofun) ?_
          refine L.pass rfl rfl (by nofun) ?_
          refine L.y rfl (Y.pickT rfl rfl) ?_
          refine L.y rfl (Y.move rfl) ?_
          refine L.pass rfl rfl (by nofun) ?_
          refine L.pass rfl rfl (by nofun) ?_
          refine L.pass rfl rfl (by nofun) ?_
          refine L.y rfl (Y.pickT rfl rfl) ?_
          refine L.nil ?_
          refine E.thenN ?_
          refine W.condT rfl ?_
          refine W.seq ?_
          refine W.region ?_
          refine L.y rfl (Y.build (cells := #[.int .i64 0, .slice none 0 0, .slice none 0 0]) rfl (by kernel_rfl)) ?_
          refine L.store (i := 0) sz111 rfl rfl rfl rfl (by simp [Value.oneCell', Value.cells, st]) rfl (Nat.le_of_ble_eq_true rfl) ?_
          refine L.y rfl (Y.assign rfl) ?_
          refine L.nil ?_
          refine E.thenN ?_
          refine W.ret ?_
          refine E.KSR ?_
          refine E.retR2 rfl (Rv.cellW (i := 0) ag111 sz111 rfl rfl rfl) (Rv.tmp rfl) (fun w1 hw => ?_)
          obtain rfl := Option.some.inj h
          exact ⟨_, _, rfl, ⟨_, _, rfl, rfl⟩, ((hw.nilSl 3 1).nilSl 3 1).sel [1, 0] (by decide) rfl⟩
    ·
      rintro _ _ ⟨rfl, rfl, h⟩
      rw [m74_pact_Step_K2] at h
      refine W.seqJ (fun gs D => ∃ (gb1 : Nat) (gv2 : Value) (gl3 : (List Int)) (gv4 : Value) (gl5 : (List Int)), gs = [(3, pt b2 0), (4, pt b3 0), (8, pt gb1 0)] ∧ D = Cls w [] [.obj b3 [.int .i64 0, .slice none 0 0, .slice none 0 0] 111, .obj b2 [.int .i64 a1.Kind, .int .i64 a1.Who, .int .i64 a1.By] 113, .sl gv2 3 1 (gl3.map I), .sl gv4 3 1 (gl5.map I), .obj gb1 [.int .i64 a0.Lead, gv2, gv4] 111] ∧ m74_pact_Step_K3 a1 a0 gl3 gl5 = some r) ?_ ?_
      ·
        refine W.drawn (k := 11) (D := Cls w [] [.obj b3 [.int .i64 0, .slice none 0 0, .slice none 0 0] 111, .obj b2 [.int .i64 a1.Kind, .int .i64 a1.Who, .int .i64 a1.By] 113, .obj b1 [.int .i64 a0.Lead, u0_0, u0_1] 111]) rfl mixed (fun _ hw => hw.drew) (fun _ hw => hw) ?_
        refine V.y (i := 0) (Nx.of (by kernel_rfl) rfl) rfl rfl rfl (Y.fieldP fd111_0 rfl) ?_
        refine V.y (i := 1) (Nx.of (by kernel_rfl) rfl) rfl rfl rfl (Y.loadP (i := 2) ag3 rfl rfl rfl) ?_
        refine V.y (i := 2) (Nx.of (by kernel_rfl) rfl) rfl rfl rfl (Y.fieldP fd111_1 rfl) ?_
        refine V.y (i := 3) (Nx.of (by kernel_rfl) rfl) rfl rfl rfl (Y.loadP (i := 2) ag24 rfl rfl rfl) ?_
        refine V.y (i := 5) (Nx.of (by kernel_rfl) rfl) rfl rfl rfl (Y.fieldP fd111_2 rfl) ?_
        refine V.y (i := 6) (Nx.of (by kernel_rfl) rfl) rfl rfl rfl (Y.loadP (i := 2) ag24 rfl rfl rfl) ?_
        refine V.eff2 (i1 := 4) (i2 := 9) (by kernel_rfl) rfl rfl ?_ ?_
        ·
          obtain ⟨l147, e149, h⟩ := bind1S h
          refine L.does rfl en104 rfl (fun w' hw => w104_slices_Clone_int a0.Votes u0_0 w' _ e149 (hA0_0.cls0 hw)) ?_
          rintro v148 _ ⟨_, rfl, rfl⟩
          refine L.nil ?_
          refine E.toV (D' := Cls w [] [.sl v148 3 1 (l147.map I), .obj b3 [.int .i64 0, .slice none 0 0, .slice none 0 0] 111, .obj b2 [.int .i64 a1.Kind, .int .i64 a1.Who, .int .i64 a1.By] 113, .obj b1 [.int .i64 a0.Lead, u0_0, u0_1] 111]) (fun _ hw => hw.sel [1, 2, 3] (by decide) rfl) (fun _ hw => hw) ?_
          refine V.eff2 (i1 := 7) (i2 := 9) (by kernel_rfl) rfl rfl ?_ ?_
          ·
            obtain ⟨l150, e152, h⟩ := bind1S h
            refine L.does rfl en104 rfl (fun w' hw => w104_slices_Clone_int a0.Parts u0_1 w' _ e152 (hA0_1.cls0 hw)) ?_
            rintro v151 _ ⟨_, rfl, rfl⟩
            refine L.nil ?_
            refine E.toV (D' := Cls w [] [.sl v151 3 1 (l150.map I), .sl v148 3 1 (l147.map I), .obj b3 [.int .i64 0, .slice none 0 0, .slice none 0 0] 111, .obj b2 [.int .i64 a1.Kind, .int .i64 a1.Who, .int .i64 a1.By] 113, .obj b1 [.int .i64 a0.Lead, u0_0, u0_1] 111]) (fun _ hw => hw.sel [1, 2, 3, 4] (by decide) rfl) (fun _ hw => hw) ?_
            refine V.y (i := 8) (Nx.of (by kernel_rfl) rfl) rfl rfl rfl (Y.buildC (cells := #[.int .i64 a0.Lead, v148, v151]) rfl (fun w hw => by rcases ((As.at_ (hw.get (i := 1) rfl))).shape with ⟨h0, _⟩ | ⟨_, _, h0, _, _⟩ <;> rcases ((As.at_ (hw.get (i := 0) rfl))).shape with ⟨h1, _⟩ | ⟨_, _, h1, _, _⟩ <;> simp only [h0, h1] <;> kernel_rfl)) ?_
            refine V.eff (i := 9) (by kernel_rfl) rfl ?_
            refine L.alloc rfl ze111 ?_
            intro b153
            refine L.nil ?_
            refine E.toV (D' := Cls w [] [.sl v151 3 1 (l150.map I), .sl v148 3 1 (l147.map I), .obj b3 [.int .i64 0, .slice none 0 0, .slice none 0 0] 111, .obj b2 [.int .i64 a1.Kind, .int .i64 a1.Who, .int .i64 a1.By] 113, .obj b1 [.int .i64 a0.Lead, u0_0, u0_1] 111]) (fun _ hw => hw) (fun _ hw => hw.sel [1, 2, 3, 4, 5] (by decide) rfl) ?_
            refine V.eff (i := 10) (by kernel_rfl) rfl ?_
            refine L.storeC (i := 0) sz111 rfl rfl rfl rfl (fun w hw => (all1 rfl (all1 (As.at_ (hw.get (i := 2) rfl)).one (all1 (As.at_ (hw.get (i := 1) rfl)).one all0)))) rfl (Nat.le_of_ble_eq_true rfl) ?_
            refine L.nil ?_
            refine E.toV (D' := Cls w [] [.sl v151 3 1 (l150.map I), .sl v148 3 1 (l147.map I), .obj b3 [.int .i64 0, .slice none 0 0, .slice none 0 0] 111, .obj b2 [.int .i64 a1.Kind, .int .i64 a1.Who, .int .i64 a1.By] 113, .obj b1 [.int .i64 a0.Lead, u0_0, u0_1] 111]) (fun _ hw => hw) (fun _ hw => hw.sel [1, 2, 3, 4, 5] (by decide) rfl) ?_
            refine V.done (by kernel_rfl) ?_
            exact E.joinJ ⟨b153, v148, l147, v151, l150, rfl, rfl, h⟩ ⟨rfl, rfl, rfl, trivial⟩ (fun _ hw => hw.sel [3, 4, 2, 1, 0] (by decide) rfl)
          ·
            refine L.alloc rfl ze111 ?_
            intro b154
            refine L.nil ?_
            refine E.toV (D' := Cls w [] [.sl v148 3 1 (l147.map I), .obj b3 [.int .i64 0, .slice none 0 0, .slice none 0 0] 111, .obj b2 [.int .i64 a1.Kind, .int .i64 a1.Who, .int .i64 a1.By] 113, .obj b1 [.int .i64 a0.Lead, u0_0, u0_1] 111]) (fun _ hw => hw) (fun _ hw => hw.sel [1, 2, 3, 4] (by decide) rfl) ?_
            refine V.eff (i := 7) (by kernel_rfl) rfl ?_
            obtain ⟨l155, e157, h⟩ := bind1S h
            refine L.does rfl en104 rfl (fun w' hw => w104_slices_Clone_int a0.Parts u0_1 w' _ e157 (hA0_1.cls0 hw)) ?_
            rintro v156 _ ⟨_, rfl, rfl⟩
            refine L.nil ?_
            refine E.toV (D' := Cls w [] [.sl v156 3 1 (l155.map I), .sl v148 3 1 (l147.map I), .obj b3 [.int .i64 0, .slice none 0 0, .slice none 0 0] 111, .obj b2 [.int .i64 a1.Kind, .int .i64 a1.Who, .int .i64 a1.By] 113, .obj b1 [.int .i64 a0.Lead, u0_0, u0_1] 111]) (fun _ hw => hw.sel [1, 2, 3, 4] (by decide) rfl) (fun _ hw => hw.sel [0, 2, 3, 4, 5] (by decide) rfl) ?_
            refine V.y (i := 8) (Nx.of (by kernel_rfl) rfl) rfl rfl rfl (Y.buildC (cells := #[.int .i64 a0.Lead, v148, v156]) rfl (fun w hw => by rcases ((As.at_ (hw.get (i := 1) rfl))).shape with ⟨h0, _⟩ | ⟨_, _, h0, _, _⟩ <;> rcases ((As.at_ (hw.get (i := 0) rfl))).shape with ⟨h1, _⟩ | ⟨_, _, h1, _, _⟩ <;> simp only [h0, h1] <;> kernel_rfl)) ?_
            refine V.eff (i := 10) (by kernel_rfl) rfl ?_
            refine L.storeC (i := 1) sz111 rfl rfl rfl rfl (fun w hw => (all1 rfl (all1 (As.at_ (hw.get (i := 2) rfl)).one (all1 (As.at_ (hw.get (i := 0) rfl)).one all0)))) rfl (Nat.le_of_ble_eq_true rfl) ?_
            refine L.nil ?_
            refine E.toV (D' := Cls w [] [.sl v156 3 1 (l155.map I), .sl v148 3 1 (l147.map I), .obj b3 [.int .i64 0, .slice none 0 0, .slice none 0 0] 111, .obj b2 [.int .i64 a1.Kind, .int .i64 a1.Who, .int .i64 a1.By] 113, .obj b1 [.int .i64 a0.Lead, u0_0, u0_1] 111]) (fun _ hw => hw) (fun _ hw => hw.sel [0, 2, 3, 4, 5] (by decide) rfl) ?_
            refine V.done (by kernel_rfl) ?_
            exact E.joinJ ⟨b154, v148, l147, v156, l155, rfl, rfl, h⟩ ⟨rfl, rfl, rfl, trivial⟩ (fun _ hw => hw.sel [3, 4, 2, 0, 1] (by decide) rfl)
        ·
          refine L.alloc rfl ze111 ?_
          intro b158
          refine L.nil ?_
          refine E.toV (D' := Cls w [] [.obj b3 [.int .i64 0, .slice none 0 0, .slice none 0 0] 111, .obj b2 [.int .i64 a1.Kind, .int .i64 a1.Who, .int .i64 a1.By] 113, .obj b1 [.int .i64 a0.Lead, u0_0, u0_1] 111]) (fun _ hw => hw) (fun _ hw => hw.sel [1, 2, 3] (by decide) rfl) ?_
          refine V.eff (i := 4) (by kernel_rfl) rfl ?_
          obtain ⟨l159, e161, h⟩ := bind1S h
          refine L.does rfl en104 rfl (fun w' hw => w104_slices_Clone_int a0.Votes u0_0 w' _ e161 (hA0_0.cls0 hw)) ?_
          rintro v160 _ ⟨_, rfl, rfl⟩
          refine L.nil ?_
          refine E.toV (D' := Cls w [] [.sl v160 3 1 (l159.map I), .obj b3 [.int .i64 0, .slice none 0 0, .slice none 0 0] 111, .obj b2 [.int .i64 a1.Kind, .int .i64 a1.Who, .int .i64 a1.By] 113, .obj b1 [.int .i64 a0.Lead, u0_0, u0_1] 111]) (fun _ hw => hw.sel [1, 2, 3] (by decide) rfl) (fun _ hw => hw.sel [0, 2, 3, 4] (by decide) rfl) ?_
          refine V.eff (i := 7) (by kernel_rfl) rfl ?_
          obtain ⟨l162, e164, h⟩ := bind1S h
          refine L.does rfl en104 rfl (fun w' hw => w104_slices_Clone_int a0.Parts u0_1 w' _ e164 (hA0_1.cls0 hw)) ?_
          rintro v163 _ ⟨_, rfl, rfl⟩
          refine L.nil ?_
          refine E.toV (D' := Cls w [] [.sl v163 3 1 (l162.map I), .sl v160 3 1 (l159.map I), .obj b3 [.int .i64 0, .slice none 0 0, .slice none 0 0] 111, .obj b2 [.int .i64 a1.Kind, .int .i64 a1.Who, .int .i64 a1.By] 113, .obj b1 [.int .i64 a0.Lead, u0_0, u0_1] 111]) (fun _ hw => hw.sel [1, 2, 3, 4] (by decide) rfl) (fun _ hw => hw.sel [0, 1, 3, 4, 5] (by decide) rfl) ?_
          refine V.y (i := 8) (Nx.of (by kernel_rfl) rfl) rfl rfl rfl (Y.buildC (cells := #[.int .i64 a0.Lead, v160, v163]) rfl (fun w hw => by rcases ((As.at_ (hw.get (i := 1) rfl))).shape with ⟨h0, _⟩ | ⟨_, _, h0, _, _⟩ <;> rcases ((As.at_ (hw.get (i := 0) rfl))).shape with ⟨h1, _⟩ | ⟨_, _, h1, _, _⟩ <;> simp only [h0, h1] <;> kernel_rfl)) ?_
          refine V.eff (i := 10) (by kernel_rfl) rfl ?_
          refine L.storeC (i := 2) sz111 rfl rfl rfl rfl (fun w hw => (all1 rfl (all1 (As.at_ (hw.get (i := 1) rfl)).one (all1 (As.at_ (hw.get (i := 0) rfl)).one all0)))) rfl (Nat.le_of_ble_eq_true rfl) ?_
          refine L.nil ?_
          refine E.toV (D' := Cls w [] [.sl v163 3 1 (l162.map I), .sl v160 3 1 (l159.map I), .obj b3 [.int .i64 0, .slice none 0 0, .slice none 0 0] 111, .obj b2 [.int .i64 a1.Kind, .int .i64 a1.Who, .int .i64 a1.By] 113, .obj b1 [.int .i64 a0.Lead, u0_0, u0_1] 111]) (fun _ hw => hw) (fun _ hw => hw.sel [0, 1, 3, 4, 5] (by decide) rfl) ?_
          refine V.done (by kernel_rfl) ?_
          exact E.joinJ ⟨b158, v160, l159, v163, l162, rfl, rfl, h⟩ ⟨rfl, rfl, rfl, trivial⟩ (fun _ hw => hw.sel [3, 4, 1, 0, 2] (by decide) rfl)
      ·
        rintro _ _ ⟨gb1, gv2, gl3, gv4, gl5, rfl, rfl, h⟩
        rw [m74_pact_Step_K3] at h
        refine W.seqJ (fun gs D => ∃ (gb6 : Bool), gs = [(3, pt b2 0), (4, pt b3 0), (8, pt gb1 0), (9, .bool gb6)] ∧ D = Cls w [] [.obj b3 [.int .i64 0, .slice none 0 0, .slice none 0 0] 111, .obj b2 [.int .i64 a1.Kind, .int .i64 a1.Who, .int .i64 a1.By] 113, .obj gb1 [.int .i64 a0.Lead, gv2, gv4] 111, .sl gv2 3 1 (gl3.map I), .sl gv4 3 1 (gl5.map I)] ∧ m74_pact_Step_K4 a1 gl5 a0 gl3 gb6 = some r) ?_ ?_
        ·
          refine W.region ?_
          refine L.y rfl (Y.fieldP fd111_2 rfl) ?_
          refine L.y rfl (Y.loadP (i := 4) ag24 rfl rfl rfl) ?_
          refine L.y rfl (Y.fieldP fd113_1 rfl) ?_
          refine L.y rfl (Y.loadP (i := 1) ag3 rfl rfl rfl) ?_
          refine L.m (V := fun _ => el gv4 (a1.Who.toNat * 1)) h rfl (Y.indexM (g := I) (l := gl5) Try.underlying24 sz3 rfl rfl (fun w hw => As.at_ (hw.get (i := 3) rfl))) (fun x138 ex138 h => ?_)
          refine L.y rfl (Y.loadE1 (u := .int .i64 x138) ag3 rfl (fun w hw => As.at_ (hw.get (i := 3) rfl)) (idx_map ex138)) ?_
          refine L.ite h rfl (Y.eql rfl rfl) (fun c139 h => ?_) (fun c139 h => ?_)
          ·
            refine L.y rfl (Y.assign rfl) ?_
            refine L.nil ?_
            exact E.joinJ ⟨true, rfl, rfl, h⟩ ⟨rfl, rfl, rfl, rfl, trivial⟩ (fun _ hw => hw.sel [0, 1, 4, 2, 3] (by decide) rfl)
          ·
            refine L.y rfl (Y.assign rfl) ?_
            refine L.nil ?_
            exact E.joinJ ⟨false, rfl, rfl, h⟩ ⟨rfl, rfl, rfl, rfl, trivial⟩ (fun _ hw => hw.sel [0, 1, 4, 2, 3] (by decide) rfl)
        ·
          rintro _ _ ⟨gb6, rfl, rfl, h⟩
          rw [m74_pact_Step_K4] at h
          rcases gb6 with _ | _
          ·
            replace h := iteF h
            refine W.seqJ (fun gs D => ∃ (gx7 : Int) (gl8 : (List Int)) (gl9 : (List Int)), gs = [(4, pt b3 0), (8, pt gb1 0)] ∧ D = Cls w [] [.obj b3 [.int .i64 0, .slice none 0 0, .slice none 0 0] 111, .obj gb1 [.int .i64 gx7, gv2, gv4] 111, .sl gv2 3 1 (gl8.map I), .sl gv4 3 1 (gl9.map I)] ∧ m74_pact_Step_K5 gx7 gl8 gl9 = some r) ?_ ?_
            ·
              refine W.seq ?_
              refine W.region ?_
              refine L.y rfl (Y.fieldP fd113_0 rfl) ?_
              refine L.y rfl (Y.loadP (i := 1) ag3 rfl rfl rfl) ?_
              refine L.nil ?_
              refine E.thenN ?_
              refine W.block ?_
              refine W.seq ?_
              refine W.region ?_
              refine L.ite h rfl (Y.eql rfl rfl) (fun c4 h => ?_) (fun c4 h => ?_)
              ·
                refine L.y rfl (Y.assign rfl) ?_
                refine L.nil ?_
                refine E.thenN ?_
                refine W.condT rfl ?_
                refine W.seq ?_
                refine W.region ?_
                refine L.y rfl (Y.move rfl) ?_
                refine L.nil ?_
                refine E.thenN ?_
                refine W.condF rfl ?_
                refine W.skip ?_
                refine E.blockN ?_
                exact E.joinJ ⟨a0.Lead, gl3, gl5, rfl, rfl, h⟩ ⟨rfl, rfl, trivial⟩ (fun _ hw => hw.sel [0, 2, 3, 4] (by decide) rfl)
              ·
                refine L.y rfl (Y.assign rfl) ?_
                refine L.nil ?_
                refine E.thenN ?_
                refine W.condF rfl ?_
                refine W.seq ?_
                refine W.region ?_
                refine L.ite h rfl (Y.eql rfl rfl) (fun c5 h => ?_) (fun c5 h => ?_)
                ·
                  refine L.y rfl (Y.assign rfl) ?_
                  refine L.nil ?_
                  refine E.thenN ?_
                  refine W.condT rfl ?_
                  refine W.seq ?_
                  refine W.region ?_
                  refine L.y rfl (Y.move rfl) ?_
                  refine L.nil ?_
                  refine E.thenN ?_
                  refine W.condF rfl ?_
                  refine W.skip ?_
                  refine E.blockN ?_
                  exact E.joinJ ⟨a0.Lead, gl3, gl5, rfl, rfl, h⟩ ⟨rfl, rfl, trivial⟩ (fun _ hw => hw.sel [0, 2, 3, 4] (by decide) rfl)
                ·
                  refine L.y rfl (Y.assign rfl) ?_
                  refine L.nil ?_
                  refine E.thenN ?_
                  refine W.condF rfl ?_
                  refine W.seqJ (fun gs D => ∃ (gb10 : Bool), gs = [(3, pt b2 0), (4, pt b3 0), (8, pt gb1 0), (67, .int .i64 a1.Kind), (84, .bool gb10)] ∧ D = Cls w [] [.obj b3 [.int .i64 0, .slice none 0 0, .slice none 0 0] 111, .obj b2 [.int .i64 a1.Kind, .int .i64 a1.Who, .int .i64 a1.By] 113, .obj gb1 [.int .i64 a0.Lead, gv2, gv4] 111, .sl gv2 3 1 (gl3.map I), .sl gv4 3 1 (gl5.map I)] ∧ m74_pact_Step_K6 a0 gl5 gl3 a1 gb10 = some r) ?_ ?_
                  ·
                    refine W.region ?_
                    refine L.ite h rfl (Y.eql rfl rfl) (fun c68 h => ?_) (fun c68 h => ?_)
                    ·
                      refine L.y rfl (Y.assign rfl) ?_
                      refine L.nil ?_
                      exact E.joinJ ⟨true, rfl, rfl, h⟩ ⟨rfl, rfl, rfl, rfl, rfl, trivial⟩ (fun _ hw => hw)
                    ·
                      refine L.y rfl (Y.assign rfl) ?_
                      refine L.nil ?_
                      exact E.joinJ ⟨false, rfl, rfl, h⟩ ⟨rfl, rfl, rfl, rfl, rfl, trivial⟩ (fun _ hw => hw)
                  ·
                    rintro _ _ ⟨gb10, rfl, rfl, h⟩
                    rw [m74_pact_Step_K6] at h
                    rcases gb10 with _ | _
                    ·
                      replace h := iteF h
                      refine W.condF rfl ?_
                      refine W.seqJ (fun gs D => ∃ (gb11 : Bool), gs = [(3, pt b2 0), (4, pt b3 0), (8, pt gb1 0), (67, .int .i64 a1.Kind), (89, .bool gb11)] ∧ D = Cls w [] [.obj b3 [.int .i64 0, .slice none 0 0, .slice none 0 0] 111, .obj b2 [.int .i64 a1.Kind, .int .i64 a1.Who, .int .i64 a1.By] 113, .obj gb1 [.int .i64 a0.Lead, gv2, gv4] 111, .sl gv2 3 1 (gl3.map I), .sl gv4 3 1 (gl5.map I)] ∧ m74_pact_Step_K7 a0 gl3 gl5 a1 gb11 = some r) ?_ ?_
                      ·
                        refine W.region ?_
                        refine L.ite h rfl (Y.eql rfl rfl) (fun c56 h => ?_) (fun c56 h => ?_)
                        ·
                          refine L.y rfl (Y.assign rfl) ?_
                          refine L.nil ?_
                          exact E.joinJ ⟨true, rfl, rfl, h⟩ ⟨rfl, rfl, rfl, rfl, rfl, trivial⟩ (fun _ hw => hw)
                        ·
                          refine L.y rfl (Y.assign rfl) ?_
                          refine L.nil ?_
                          exact E.joinJ ⟨false, rfl, rfl, h⟩ ⟨rfl, rfl, rfl, rfl, rfl, trivial⟩ (fun _ hw => hw)
                      ·
                        rintro _ _ ⟨gb11, rfl, rfl, h⟩
                        rw [m74_pact_Step_K7] at h
                        rcases gb11 with _ | _
                        ·
                          replace h := iteF h
                          refine W.condF rfl ?_
                          refine W.seq ?_
                          refine W.region ?_
                          refine L.ite h rfl (Y.eql rfl rfl) (fun c6 h => ?_) (fun c6 h => ?_)
                          ·
                            refine L.y rfl (Y.assign rfl) ?_
                            refine L.nil ?_
                            refine E.thenN ?_
                            refine W.condT rfl ?_
                            refine W.seq ?_
                            refine W.region ?_
                            refine L.y rfl (Y.fieldP fd111_0 rfl) ?_
                            refine L.y rfl (Y.loadP (i := 2) ag3 rfl rfl rfl) ?_
                            refine L.ite h rfl (Y.eql rfl rfl) (fun c7 h => ?_) (fun c7 h => ?_)
                            ·
                              refine L.nil ?_
                              refine E.thenN ?_
                              refine W.condT rfl ?_
                              refine W.region ?_
                              refine L.y rfl (Y.fieldP fd111_0 rfl) ?_
                              refine L.store (i := 2) sz3 rfl rfl rfl rfl (by simp [Value.oneCell', Value.cells, st]) rfl (Nat.le_of_ble_eq_true rfl) ?_
                              refine L.nil ?_
                              refine E.blockN ?_
                              exact E.joinJ ⟨2, gl3, gl5, rfl, rfl, h⟩ ⟨rfl, rfl, trivial⟩ (fun _ hw => hw.sel [0, 2, 3, 4] (by decide) rfl)
                            ·
                              refine L.nil ?_
                              refine E.thenN ?_
                              refine W.condF rfl ?_
                              refine W.skip ?_
                              refine E.blockN ?_
                              exact E.joinJ ⟨a0.Lead, gl3, gl5, rfl, rfl, h⟩ ⟨rfl, rfl, trivial⟩ (fun _ hw => hw.sel [0, 2, 3, 4] (by decide) rfl)
                          ·
                            refine L.y rfl (Y.assign rfl) ?_
                            refine L.nil ?_
                            refine E.thenN ?_
                            refine W.condF rfl ?_
                            refine W.seqJ (fun gs D => ∃ (gb12 : Bool), gs = [(3, pt b2 0), (4, pt b3 0), (8, pt gb1 0), (67, .int .i64 a1.Kind), (98, .bool gb12)] ∧ D = Cls w [] [.obj b3 [.int .i64 0, .slice none 0 0, .slice none 0 0] 111, .obj b2 [.int .i64 a1.Kind, .int .i64 a1.Who, .int .i64 a1.By] 113, .obj gb1 [.int .i64 a0.Lead, gv2, gv4] 111, .sl gv2 3 1 (gl3.map I), .sl gv4 3 1 (gl5.map I)] ∧ m74_pact_Step_K8 gl5 a1 a0 gl3 gb12 = some r) ?_ ?_
                            ·
                              refine W.region ?_
                              refine L.ite h rfl (Y.eql rfl rfl) (fun c50 h => ?_) (fun c50 h => ?_)
                              ·
                                refine L.y rfl (Y.assign rfl) ?_
                                refine L.nil ?_
                                exact E.joinJ ⟨true, rfl, rfl, h⟩ ⟨rfl, rfl, rfl, rfl, rfl, trivial⟩ (fun _ hw => hw)
                              ·
                                refine L.y rfl (Y.assign rfl) ?_
                                refine L.nil ?_
                                exact E.joinJ ⟨false, rfl, rfl, h⟩ ⟨rfl, rfl, rfl, rfl, rfl, trivial⟩ (fun _ hw => hw)
                            ·
                              rintro _ _ ⟨gb12, rfl, rfl, h⟩
                              rw [m74_pact_Step_K8] at h
                              rcases gb12 with _ | _
                              ·
                                replace h := iteF h
                                refine W.condF rfl ?_
                                refine W.seq ?_
                                refine W.region ?_
                                refine L.ite h rfl (Y.eql rfl rfl) (fun c8 h => ?_) (fun c8 h => ?_)
                                ·
                                  refine L.y rfl (Y.assign rfl) ?_
                                  refine L.nil ?_
                                  refine E.thenN ?_
                                  refine W.condT rfl ?_
                                  refine W.region ?_
                                  refine L.y rfl (Y.fieldP fd113_1 rfl) ?_
                                  refine L.y rfl (Y.loadP (i := 1) ag3 rfl rfl rfl) ?_
                                  refine L.y rfl (Y.fieldP fd113_2 rfl) ?_
                                  refine L.y rfl (Y.loadP (i := 1) ag3 rfl rfl rfl) ?_
                                  refine L.callJ (fun v D => ∃ (gl13 : (List Int)), v = .tuple #[] ∧ D = Cls w [] [.obj b3 [.int .i64 0, .slice none 0 0, .slice none 0 0] 111, .obj b2 [.int .i64 a1.Kind, .int .i64 a1.Who, .int .i64 a1.By] 113, .obj gb1 [.int .i64 a0.Lead, gv2, gv4] 111, .sl gv2 3 1 (gl3.map I), .sl gv4 3 1 (gl13.map I)] ∧ m74_pact_Step_K9 a0 gl3 gl13 = some r) rfl en132 rfl Try.func132 rfl rfl rfl ?_ ?_
                                  ·
                                    refine W.seqJ (fun gs D => gs = [(0, pt gb1 0), (1, .int .i64 a1.Who), (2, .int .i64 a1.By)] ∧ D = Cls w [] [.obj b3 [.int .i64 0, .slice none 0 0, .slice none 0 0] 111, .obj b2 [.int .i64 a1.Kind, .int .i64 a1.Who, .int .i64 a1.By] 113, .obj gb1 [.int .i64 a0.Lead, gv2, gv4] 111, .sl gv2 3 1 (gl3.map I), .sl gv4 3 1 (gl5.map I)] ∧ m74_pact_Step_K10 gl5 a1 a0 gl3 = some r) ?_ ?_
                                    ·
                                      refine W.seq ?_
                                      refine W.region ?_
                                      refine L.y rfl (Y.move rfl) ?_
                                      refine L.y rfl (Y.nilCheck rfl) ?_
                                      refine L.y rfl (Y.fieldP fd111_2 rfl) ?_
                                      refine L.y rfl (Y.loadP (i := 2) ag24 rfl rfl rfl) ?_
                                      refine L.y rfl (Y.move rfl) ?_
                                      refine L.m (V := fun _ => el gv4 (a1.Who.toNat * 1)) h rfl (Y.indexM (g := I) (l := gl5) Try.underlying24 sz3 rfl rfl (fun w hw => As.at_ (hw.get (i := 4) rfl))) (fun x37 ex37 h => ?_)
                                      refine L.y rfl (Y.loadE1 (u := .int .i64 x37) ag3 rfl (fun w hw => As.at_ (hw.get (i := 4) rfl)) (idx_map ex37)) ?_
                                      refine L.ite h rfl (Y.neq rfl rfl) (fun c38 h => ?_) (fun c38 h => ?_)
                                      ·
                                        refine L.y rfl (Y.move rfl) ?_
                                        refine L.pass rfl rfl (by nofun) ?_
                                        refine L.pass rfl rfl (by nofun) ?_
                                        refine L.pass rfl rfl (by nofun) ?_
                                        refine L.y rfl (Y.pickT rfl rfl) ?_
                                        refine L.nil ?_
                                        refine E.thenN ?_
                                        refine W.condT rfl ?_
                                        refine W.ret ?_
                                        refine E.KSR ?_
                                        refine E.ret0 rfl (fun w1 hw => ?_)
                                        exact ⟨_, _, rfl, ⟨gl5, rfl, rfl, h⟩, (fun _ hw => hw) _ hw⟩
                                      ·
                                        refine L.y rfl (Y.move rfl) ?_
                                        refine L.take rfl ?_
                                        refine L.y rfl (Y.move rfl) ?_
                                        refine L.take rfl ?_
                                        refine L.y rfl (Y.move rfl) ?_
                                        refine L.take rfl ?_
                                        refine L.ite h rfl (Y.eql rfl rfl) (fun c39 h => ?_) (fun c39 h => ?_)
                                        ·
                                          refine L.y rfl (Y.pickF rfl rfl) ?_
                                          refine L.nil ?_
                                          refine E.thenN ?_
                                          refine W.condT rfl ?_
                                          refine W.ret ?_
                                          refine E.KSR ?_
                                          refine E.ret0 rfl (fun w1 hw => ?_)
                                          exact ⟨_, _, rfl, ⟨gl5, rfl, rfl, h⟩, (fun _ hw => hw) _ hw⟩
                                        ·
                                          refine L.y rfl (Y.pickF rfl rfl) ?_
                                          refine L.nil ?_
                                          refine E.thenN ?_
                                          refine W.condF rfl ?_
                                          refine W.skip ?_
                                          exact E.joinJ ⟨rfl, rfl, h⟩ ⟨rfl, rfl, rfl, trivial⟩ (fun _ hw => hw)
                                    ·
                                      rintro _ _ ⟨rfl, rfl, h⟩
                                      rw [m74_pact_Step_K10] at h
                                      refine W.seq ?_
                                      refine W.region ?_
                                      refine L.y rfl (Y.move rfl) ?_
                                      refine L.y rfl (Y.nilCheck rfl) ?_
                                      refine L.y rfl (Y.fieldP fd111_2 rfl) ?_
                                      refine L.y rfl (Y.loadP (i := 2) ag24 rfl rfl rfl) ?_
                                      refine L.y rfl (Y.move rfl) ?_
                                      refine L.m (V := fun _ => el gv4 (a1.By.toNat * 1)) h rfl (Y.indexM (g := I) (l := gl5) Try.underlying24 sz3 rfl rfl (fun w hw => As.at_ (hw.get (i := 4) rfl))) (fun x9 ex9 h => ?_)
                                      refine L.y rfl (Y.loadE1 (u := .int .i64 x9) ag3 rfl (fun w hw => As.at_ (hw.get (i := 4) rfl)) (idx_map ex9)) ?_
                                      refine L.nil ?_
                                      refine E.thenN ?_
                                      refine W.block ?_
                                      refine W.seqJ (fun gs D => ∃ (gb14 : Bool), gs = [(0, pt gb1 0), (1, .int .i64 a1.Who), (2, .int .i64 a1.By), (25, .int .i64 x9), (26, .bool gb14)] ∧ D = Cls w [] [.obj b3 [.int .i64 0, .slice none 0 0, .slice none 0 0] 111, .obj b2 [.int .i64 a1.Kind, .int .i64 a1.Who, .int .i64 a1.By] 113, .obj gb1 [.int .i64 a0.Lead, gv2, gv4] 111, .sl gv2 3 1 (gl3.map I), .sl gv4 3 1 (gl5.map I)] ∧ m74_pact_Step_K11 gl5 a1 a0 gl3 x9 gb14 = some r) ?_ ?_
                                      ·
                                        refine W.region ?_
                                        refine L.ite h rfl (Y.eql rfl rfl) (fun c36 h => ?_) (fun c36 h => ?_)
                                        ·
                                          refine L.y rfl (Y.assign rfl) ?_
                                          refine L.nil ?_
                                          exact E.joinJ ⟨true, rfl, rfl, h⟩ ⟨rfl, rfl, rfl, rfl, rfl, trivial⟩ (fun _ hw => hw)
                                        ·
                                          refine L.y rfl (Y.assign rfl) ?_
                                          refine L.nil ?_
                                          exact E.joinJ ⟨false, rfl, rfl, h⟩ ⟨rfl, rfl, rfl, rfl, rfl, trivial⟩ (fun _ hw => hw)
                                      ·
                                        rintro _ _ ⟨gb14, rfl, rfl, h⟩
                                        rw [m74_pact_Step_K11] at h
                                        rcases gb14 with _ | _
                                        ·
                                          replace h := iteF h
                                          refine W.condF rfl ?_
                                          refine W.seqJ (fun gs D => ∃ (gb15 : Bool), gs = [(0, pt gb1 0), (1, .int .i64 a1.Who), (2, .int .i64 a1.By), (40, .bool gb15)] ∧ D = Cls w [] [.obj b3 [.int .i64 0, .slice none 0 0, .slice none 0 0] 111, .obj b2 [.int .i64 a1.Kind, .int .i64 a1.Who, .int .i64 a1.By] 113, .obj gb1 [.int .i64 a0.Lead, gv2, gv4] 111, .sl gv2 3 1 (gl3.map I), .sl gv4 3 1 (gl5.map I)] ∧ m74_pact_Step_K12 gl5 a1 a0 gl3 gb15 = some r) ?_ ?_
                                          ·
                                            refine W.seq ?_
                                            refine W.region ?_
                                            refine L.ite h rfl (Y.eql rfl rfl) (fun c24 h => ?_) (fun c24 h => ?_)
                                            ·
                                              refine L.y rfl (Y.assign rfl) ?_
                                              refine L.nil ?_
                                              refine E.thenN ?_
                                              refine W.condT rfl ?_
                                              refine W.skip ?_
                                              exact E.joinJ ⟨true, rfl, rfl, h⟩ ⟨rfl, rfl, rfl, rfl, trivial⟩ (fun _ hw => hw)
                                            ·
                                              refine L.y rfl (Y.assign rfl) ?_
                                              refine L.nil ?_
                                              refine E.thenN ?_
                                              refine W.condF rfl ?_
                                              refine W.region ?_
                                              refine L.ite h rfl (Y.eql rfl rfl) (fun c25 h => ?_) (fun c25 h => ?_)
                                              ·
                                                refine L.y rfl (Y.assign rfl) ?_
                                                refine L.nil ?_
                                                exact E.joinJ ⟨true, rfl, rfl, h⟩ ⟨rfl, rfl, rfl, rfl, trivial⟩ (fun _ hw => hw)
                                              ·
                                                refine L.y rfl (Y.assign rfl) ?_
                                                refine L.nil ?_
                                                exact E.joinJ ⟨false, rfl, rfl, h⟩ ⟨rfl, rfl, rfl, rfl, trivial⟩ (fun _ hw => hw)
                                          ·
                                            rintro _ _ ⟨gb15, rfl, rfl, h⟩
                                            rw [m74_pact_Step_K12] at h
                                            rcases gb15 with _ | _
                                            ·
                                              replace h := iteF h
                                              refine W.condF rfl ?_
                                              refine W.skip ?_
                                              refine E.blockN ?_
                                              refine E.end0 rfl (fun w1 hw => ?_)
                                              exact ⟨_, _, rfl, ⟨gl5, rfl, rfl, h⟩, (fun _ hw => hw) _ hw⟩
                                            ·
                                              replace h := iteT h
                                              refine W.condT rfl ?_
                                              refine W.drawn (k := 14) (D := Cls w [] [.obj b3 [.int .i64 0, .slice none 0 0, .slice none 0 0] 111, .obj b2 [.int .i64 a1.Kind, .int .i64 a1.Who, .int .i64 a1.By] 113, .obj gb1 [.int .i64 a0.Lead, gv2, gv4] 111, .sl gv2 3 1 (gl3.map I)]) rfl mixed (fun _ hw => hw.drew) (fun _ hw => hw.sel [0, 1, 2, 3] (by decide) rfl) ?_
                                              refine V.y (i := 0) (Nx.of (by kernel_rfl) rfl) rfl rfl rfl (Y.move rfl) ?_
                                              refine V.y (i := 4) (Nx.of (by kernel_rfl) rfl) rfl rfl rfl (Y.move rfl) ?_
                                              refine V.y (i := 5) (Nx.of (by kernel_rfl) rfl) rfl rfl rfl (Y.move rfl) ?_
                                              refine V.y (i := 9) (Nx.of (by kernel_rfl) rfl) rfl rfl rfl (Y.move rfl) ?_
                                              refine V.eff2 (i1 := 1) (i2 := 6) (by kernel_rfl) rfl rfl ?_ ?_
                                              ·
                                                refine L.y rfl (Y.nilCheck rfl) ?_
                                                refine L.nil ?_
                                                refine E.toV (D' := Cls w [] [.obj b3 [.int .i64 0, .slice none 0 0, .slice none 0 0] 111, .obj b2 [.int .i64 a1.Kind, .int .i64 a1.Who, .int .i64 a1.By] 113, .obj gb1 [.int .i64 a0.Lead, gv2, gv4] 111, .sl gv2 3 1 (gl3.map I)]) (fun _ hw => hw) (fun _ hw => hw.sel [0, 1, 2, 3] (by decide) rfl) ?_
                                                refine V.y (i := 2) (Nx.of (by kernel_rfl) rfl) rfl rfl rfl (Y.fieldP fd111_2 rfl) ?_
                                                refine V.y (i := 3) (Nx.of (by kernel_rfl) rfl) rfl rfl rfl (Y.loadP (i := 2) ag24 rfl rfl rfl) ?_
                                                refine V.eff (i := 6) (by kernel_rfl) rfl ?_
                                                refine L.y rfl (Y.nilCheck rfl) ?_
                                                refine L.nil ?_
                                                refine E.toV (D' := Cls w [] [.obj b3 [.int .i64 0, .slice none 0 0, .slice none 0 0] 111, .obj b2 [.int .i64 a1.Kind, .int .i64 a1.Who, .int .i64 a1.By] 113, .obj gb1 [.int .i64 a0.Lead, gv2, gv4] 111, .sl gv2 3 1 (gl3.map I)]) (fun _ hw => hw) (fun _ hw => hw.sel [0, 1, 2, 3] (by decide) rfl) ?_
                                                refine V.y (i := 7) (Nx.of (by kernel_rfl) rfl) rfl rfl rfl (Y.fieldP fd111_2 rfl) ?_
                                                refine V.y (i := 8) (Nx.of (by kernel_rfl) rfl) rfl rfl rfl (Y.loadP (i := 2) ag24 rfl rfl rfl) ?_
                                                refine V.eff (i := 10) (by kernel_rfl) rfl ?_
                                                refine L.m (V := fun _ => el gv4 (a1.By.toNat * 1)) h rfl (Y.indexM (g := I) (l := gl5) Try.underlying24 sz3 rfl rfl (fun w hw => As.at_ (hw.get (i := 4) rfl))) (fun x13 ex13 h => ?_)
                                                refine L.nil ?_
                                                refine E.toV (D' := Cls w [] [.obj b3 [.int .i64 0, .slice none 0 0, .slice none 0 0] 111, .obj b2 [.int .i64 a1.Kind, .int .i64 a1.Who, .int .i64 a1.By] 113, .obj gb1 [.int .i64 a0.Lead, gv2, gv4] 111, .sl gv2 3 1 (gl3.map I)]) (fun _ hw => hw) (fun _ hw => hw.sel [0, 1, 2, 3] (by decide) rfl) ?_
                                                refine V.eff (i := 11) (by kernel_rfl) rfl ?_
                                                refine L.y rfl (Y.loadE1 (u := .int .i64 x13) ag3 rfl (fun w hw => As.at_ (hw.get (i := 4) rfl)) (idx_map ex13)) ?_
                                                refine L.nil ?_
                                                refine E.toV (D' := Cls w [] [.obj b3 [.int .i64 0, .slice none 0 0, .slice none 0 0] 111, .obj b2 [.int .i64 a1.Kind, .int .i64 a1.Who, .int .i64 a1.By] 113, .obj gb1 [.int .i64 a0.Lead, gv2, gv4] 111, .sl gv2 3 1 (gl3.map I)]) (fun _ hw => hw) (fun _ hw => hw.sel [0, 1, 2, 3] (by decide) rfl) ?_
                                                refine V.eff (i := 12) (by kernel_rfl) rfl ?_
                                                refine L.m (V := fun _ => el gv4 (a1.Who.toNat * 1)) h rfl (Y.indexM (g := I) (l := gl5) Try.underlying24 sz3 rfl rfl (fun w hw => As.at_ (hw.get (i := 4) rfl))) (fun x14 ex14 h => ?_)
                                                refine L.nil ?_
                                                refine E.toV (D' := Cls w [] [.obj b3 [.int .i64 0, .slice none 0 0, .slice none 0 0] 111, .obj b2 [.int .i64 a1.Kind, .int .i64 a1.Who, .int .i64 a1.By] 113, .obj gb1 [.int .i64 a0.Lead, gv2, gv4] 111, .sl gv2 3 1 (gl3.map I)]) (fun _ hw => hw) (fun _ hw => hw.sel [0, 1, 2, 3] (by decide) rfl) ?_
                                                refine V.eff (i := 13) (by kernel_rfl) rfl ?_
                                                refine L.storeSlM (q := 4) (row := I) (vs := [.int .i64 x13]) (j := 0) (u1 := x13) h sz3 rfl rfl rfl rfl rfl (all1 rfl all0) rfl ex14 rfl rfl ?_
                                                intro l15 el15 h
                                                refine L.nil ?_
                                                refine E.toV (D' := Cls w [] [.obj b3 [.int .i64 0, .slice none 0 0, .slice none 0 0] 111, .obj b2 [.int .i64 a1.Kind, .int .i64 a1.Who, .int .i64 a1.By] 113, .obj gb1 [.int .i64 a0.Lead, gv2, gv4] 111, .sl gv2 3 1 (gl3.map I)]) (fun _ hw => hw) (fun _ hw => hw.sel [0, 1, 2, 3] (by decide) rfl) ?_
                                                refine V.done (by kernel_rfl) ?_
                                                refine E.blockN ?_
                                                refine E.end0 rfl (fun w1 hw => ?_)
                                                exact ⟨_, _, rfl, ⟨l15, rfl, rfl, h⟩, (fun _ hw => hw) _ hw⟩
                                              ·
                                                refine L.y rfl (Y.nilCheck rfl) ?_
                                                refine L.nil ?_
                                                refine E.toV (D' := Cls w [] [.obj b3 [.int .i64 0, .slice none 0 0, .slice none 0 0] 111, .obj b2 [.int .i64 a1.Kind, .int .i64 a1.Who, .int .i64 a1.By] 113, .obj gb1 [.int .i64 a0.Lead, gv2, gv4] 111, .sl gv2 3 1 (gl3.map I)]) (fun _ hw => hw) (fun _ hw => hw.sel [0, 1, 2, 3] (by decide) rfl) ?_
                                                refine V.y (i := 7) (Nx.of (by kernel_rfl) rfl) rfl rfl rfl (Y.fieldP fd111_2 rfl) ?_
                                                refine V.y (i := 8) (Nx.of (by kernel_rfl) rfl) rfl rfl rfl (Y.loadP (i := 2) ag24 rfl rfl rfl) ?_
                                                refine V.eff2 (i1 := 1) (i2 := 10) (by kernel_rfl) rfl rfl ?_ ?_
                                                ·
                                                  refine L.y rfl (Y.nilCheck rfl) ?_
                                                  refine L.nil ?_
                                                  refine E.toV (D' := Cls w [] [.obj b3 [.int .i64 0, .slice none 0 0, .slice none 0 0] 111, .obj b2 [.int .i64 a1.Kind, .int .i64 a1.Who, .int .i64 a1.By] 113, .obj gb1 [.int .i64 a0.Lead, gv2, gv4] 111, .sl gv2 3 1 (gl3.map I)]) (fun _ hw => hw) (fun _ hw => hw.sel [0, 1, 2, 3] (by decide) rfl) ?_
                                                  refine V.y (i := 2) (Nx.of (by kernel_rfl) rfl) rfl rfl rfl (Y.fieldP fd111_2 rfl) ?_
                                                  refine V.y (i := 3) (Nx.of (by kernel_rfl) rfl) rfl rfl rfl (Y.loadP (i := 2) ag24 rfl rfl rfl) ?_
                                                  refine V.eff (i := 10) (by kernel_rfl) rfl ?_
                                                  refine L.m (V := fun _ => el gv4 (a1.By.toNat * 1)) h rfl (Y.indexM (g := I) (l := gl5) Try.underlying24 sz3 rfl rfl (fun w hw => As.at_ (hw.get (i := 4) rfl))) (fun x16 ex16 h => ?_)
                                                  refine L.nil ?_
                                                  refine E.toV (D' := Cls w [] [.obj b3 [.int .i64 0, .slice none 0 0, .slice none 0 0] 111, .obj b2 [.int .i64 a1.Kind, .int .i64 a1.Who, .int .i64 a1.By] 113, .obj gb1 [.int .i64 a0.Lead, gv2, gv4] 111, .sl gv2 3 1 (gl3.map I)]) (fun _ hw => hw) (fun _ hw => hw.sel [0, 1, 2, 3] (by decide) rfl) ?_
                                                  refine V.eff (i := 11) (by kernel_rfl) rfl ?_
                                                  refine L.y rfl (Y.loadE1 (u := .int .i64 x16) ag3 rfl (fun w hw => As.at_ (hw.get (i := 4) rfl)) (idx_map ex16)) ?_
                                                  refine L.nil ?_
                                                  refine E.toV (D' := Cls w [] [.obj b3 [.int .i64 0, .slice none 0 0, .slice none 0 0] 111, .obj b2 [.int .i64 a1.Kind, .int .i64 a1.Who, .int .i64 a1.By] 113, .obj gb1 [.int .i64 a0.Lead, gv2, gv4] 111, .sl gv2 3 1 (gl3.map I)]) (fun _ hw => hw) (fun _ hw => hw.sel [0, 1, 2, 3] (by decide) rfl) ?_
                                                  refine V.eff (i := 12) (by kernel_rfl) rfl ?_
                                                  refine L.m (V := fun _ => el gv4 (a1.Who.toNat * 1)) h rfl (Y.indexM (g := I) (l := gl5) Try.underlying24 sz3 rfl rfl (fun w hw => As.at_ (hw.get (i := 4) rfl))) (fun x17 ex17 h => ?_)
                                                  refine L.nil ?_
                                                  refine E.toV (D' := Cls w [] [.obj b3 [.int .i64 0, .slice none 0 0, .slice none 0 0] 111, .obj b2 [.int .i64 a1.Kind, .int .i64 a1.Who, .int .i64 a1.By] 113, .obj gb1 [.int .i64 a0.Lead, gv2, gv4] 111, .sl gv2 3 1 (gl3.map I)]) (fun _ hw => hw) (fun _ hw => hw.sel [0, 1, 2, 3] (by decide) rfl) ?_
                                                  refine V.eff (i := 13) (by kernel_rfl) rfl ?_
                                                  refine L.storeSlM (q := 4) (row := I) (vs := [.int .i64 x16]) (j := 0) (u1 := x16) h sz3 rfl rfl rfl rfl rfl (all1 rfl all0) rfl ex17 rfl rfl ?_
                                                  intro l18 el18 h
                                                  refine L.nil ?_
                                                  refine E.toV (D' := Cls w [] [.obj b3 [.int .i64 0, .slice none 0 0, .slice none 0 0] 111, .obj b2 [.int .i64 a1.Kind, .int .i64 a1.Who, .int .i64 a1.By] 113, .obj gb1 [.int .i64 a0.Lead, gv2, gv4] 111, .sl gv2 3 1 (gl3.map I)]) (fun _ hw => hw) (fun _ hw => hw.sel [0, 1, 2, 3] (by decide) rfl) ?_
                                                  refine V.done (by kernel_rfl) ?_
                                                  refine E.blockN ?_
                                                  refine E.end0 rfl (fun w1 hw => ?_)
                                                  exact ⟨_, _, rfl, ⟨l18, rfl, rfl, h⟩, (fun _ hw => hw) _ hw⟩
                                                ·
                                                  refine L.m (V := fun _ => el gv4 (a1.By.toNat * 1)) h rfl (Y.indexM (g := I) (l := gl5) Try.underlying24 sz3 rfl rfl (fun w hw => As.at_ (hw.get (i := 4) rfl))) (fun x19 ex19 h => ?_)
                                                  refine L.nil ?_
                                                  refine E.toV (D' := Cls w [] [.obj b3 [.int .i64 0, .slice none 0 0, .slice none 0 0] 111, .obj b2 [.int .i64 a1.Kind, .int .i64 a1.Who, .int .i64 a1.By] 113, .obj gb1 [.int .i64 a0.Lead, gv2, gv4] 111, .sl gv2 3 1 (gl3.map I)]) (fun _ hw => hw) (fun _ hw => hw.sel [0, 1, 2, 3] (by decide) rfl) ?_
                                                  refine V.eff2 (i1 := 1) (i2 := 11) (by kernel_rfl) rfl rfl ?_ ?_
                                                  ·
                                                    refine L.y rfl (Y.nilCheck rfl) ?_
                                                    refine L.nil ?_
                                                    refine E.toV (D' := Cls w [] [.obj b3 [.int .i64 0, .slice none 0 0, .slice none 0 0] 111, .obj b2 [.int .i64 a1.Kind, .int .i64 a1.Who, .int .i64 a1.By] 113, .obj gb1 [.int .i64 a0.Lead, gv2, gv4] 111, .sl gv2 3 1 (gl3.map I)]) (fun _ hw => hw) (fun _ hw => hw.sel [0, 1, 2, 3] (by decide) rfl) ?_
                                                    refine V.y (i := 2) (Nx.of (by kernel_rfl) rfl) rfl rfl rfl (Y.fieldP fd111_2 rfl) ?_
                                                    refine V.y (i := 3) (Nx.of (by kernel_rfl) rfl) rfl rfl rfl (Y.loadP (i := 2) ag24 rfl rfl rfl) ?_
                                                    refine V.eff (i := 11) (by kernel_rfl) rfl ?_
                                                    refine L.y rfl (Y.loadE1 (u := .int .i64 x19) ag3 rfl (fun w hw => As.at_ (hw.get (i := 4) rfl)) (idx_map ex19)) ?_
                                                    refine L.nil ?_
                                                    refine E.toV (D' := Cls w [] [.obj b3 [.int .i64 0, .slice none 0 0, .slice none 0 0] 111, .obj b2 [.int .i64 a1.Kind, .int .i64 a1.Who, .int .i64 a1.By] 113, .obj gb1 [.int .i64 a0.Lead, gv2, gv4] 111, .sl gv2 3 1 (gl3.map I)]) (fun _ hw => hw) (fun _ hw => hw.sel [0, 1, 2, 3] (by decide) rfl) ?_
                                                    refine V.eff (i := 12) (by kernel_rfl) rfl ?_
                                                    refine L.m (V := fun _ => el gv4 (a1.Who.toNat * 1)) h rfl (Y.indexM (g := I) (l := gl5) Try.underlying24 sz3 rfl rfl (fun w hw => As.at_ (hw.get (i := 4) rfl))) (fun x20 ex20 h => ?_)
                                                    refine L.nil ?_
                                                    refine E.toV (D' := Cls w [] [.obj b3 [.int .i64 0, .slice none 0 0, .slice none 0 0] 111, .obj b2 [.int .i64 a1.Kind, .int .i64 a1.Who, .int .i64 a1.By] 113, .obj gb1 [.int .i64 a0.Lead, gv2, gv4] 111, .sl gv2 3 1 (gl3.map I)]) (fun _ hw => hw) (fun _ hw => hw.sel [0, 1, 2, 3] (by decide) rfl) ?_
                                                    refine V.eff (i := 13) (by kernel_rfl) rfl ?_
                                                    refine L.storeSlM (q := 4) (row := I) (vs := [.int .i64 x19]) (j := 0) (u1 := x19) h sz3 rfl rfl rfl rfl rfl (all1 rfl all0) rfl ex20 rfl rfl ?_
                                                    intro l21 el21 h
                                                    refine L.nil ?_
                                                    refine E.toV (D' := Cls w [] [.obj b3 [.int .i64 0, .slice none 0 0, .slice none 0 0] 111, .obj b2 [.int .i64 a1.Kind, .int .i64 a1.Who, .int .i64 a1.By] 113, .obj gb1 [.int .i64 a0.Lead, gv2, gv4] 111, .sl gv2 3 1 (gl3.map I)]) (fun _ hw => hw) (fun _ hw => hw.sel [0, 1, 2, 3] (by decide) rfl) ?_
                                                    refine V.done (by kernel_rfl) ?_
                                                    refine E.blockN ?_
                                                    refine E.end0 rfl (fun w1 hw => ?_)
                                                    exact ⟨_, _, rfl, ⟨l21, rfl, rfl, h⟩, (fun _ hw => hw) _ hw⟩
                                                  ·
                                                    refine L.y rfl (Y.loadE1 (u := .int .i64 x19) ag3 rfl (fun w hw => As.at_ (hw.get (i := 4) rfl)) (idx_map ex19)) ?_
                                                    refine L.nil ?_
                                                    refine E.toV (D' := Cls w [] [.obj b3 [.int .i64 0, .slice none 0 0, .slice none 0 0] 111, .obj b2 [.int .i64 a1.Kind, .int .i64 a1.Who, .int .i64 a1.By] 113, .obj gb1 [.int .i64 a0.Lead, gv2, gv4] 111, .sl gv2 3 1 (gl3.map I)]) (fun _ hw => hw) (fun _ hw => hw.sel [0, 1, 2, 3] (by decide) rfl) ?_
                                                    refine V.eff (i := 1) (by kernel_rfl) rfl ?_
                                                    refine L.y rfl (Y.nilCheck rfl) ?_
                                                    refine L.nil ?_
                                                    refine E.toV (D' := Cls w [] [.obj b3 [.int .i64 0, .slice none 0 0, .slice none 0 0] 111, .obj b2 [.int .i64 a1.Kind, .int .i64 a1.Who, .int .i64 a1.By] 113, .obj gb1 [.int .i64 a0.Lead, gv2, gv4] 111, .sl gv2 3 1 (gl3.map I)]) (fun _ hw => hw) (fun _ hw => hw.sel [0, 1, 2, 3] (by decide) rfl) ?_
                                                    refine V.y (i := 2) (Nx.of (by kernel_rfl) rfl) rfl rfl rfl (Y.fieldP fd111_2 rfl) ?_
                                                    refine V.y (i := 3) (Nx.of (by kernel_rfl) rfl) rfl rfl rfl (Y.loadP (i := 2) ag24 rfl rfl rfl) ?_
                                                    refine V.eff (i := 12) (by kernel_rfl) rfl ?_
                                                    refine L.m (V := fun _ => el gv4 (a1.Who.toNat * 1)) h rfl (Y.indexM (g := I) (l := gl5) Try.underlying24 sz3 rfl rfl (fun w hw => As.at_ (hw.get (i := 4) rfl))) (fun x22 ex22 h => ?_)
                                                    refine L.nil ?_
                                                    refine E.toV (D' := Cls w [] [.obj b3 [.int .i64 0, .slice none 0 0, .slice none 0 0] 111, .obj b2 [.int .i64 a1.Kind, .int .i64 a1.Who, .int .i64 a1.By] 113, .obj gb1 [.int .i64 a0.Lead, gv2, gv4] 111, .sl gv2 3 1 (gl3.map I)]) (fun _ hw => hw) (fun _ hw => hw.sel [0, 1, 2, 3] (by decide) rfl) ?_
                                                    refine V.eff (i := 13) (by kernel_rfl) rfl ?_
                                                    refine L.storeSlM (q := 4) (row := I) (vs := [.int .i64 x19]) (j := 0) (u1 := x19) h sz3 rfl rfl rfl rfl rfl (all1 rfl all0) rfl ex22 rfl rfl ?_
                                                    intro l23 el23 h
                                                    refine L.nil ?_
                                                    refine E.toV (D' := Cls w [] [.obj b3 [.int .i64 0, .slice none 0 0, .slice none 0 0] 111, .obj b2 [.int .i64 a1.Kind, .int .i64 a1.Who, .int .i64 a1.By] 113, .obj gb1 [.int .i64 a0.Lead, gv2, gv4] 111, .sl gv2 3 1 (gl3.map I)]) (fun _ hw => hw) (fun _ hw => hw.sel [0, 1, 2, 3] (by decide) rfl) ?_
                                                    refine V.done (by kernel_rfl) ?_
                                                    refine E.blockN ?_
                                                    refine E.end0 rfl (fun w1 hw => ?_)
                                                    exact ⟨_, _, rfl, ⟨l23, rfl, rfl, h⟩, (fun _ hw => hw) _ hw⟩
                                        ·
                                          replace h := iteT h
                                          refine W.condT rfl ?_
                                          refine W.drawn (k := 14) (D := Cls w [] [.obj b3 [.int .i64 0, .slice none 0 0, .slice none 0 0] 111, .obj b2 [.int .i64 a1.Kind, .int .i64 a1.Who, .int .i64 a1.By] 113, .obj gb1 [.int .i64 a0.Lead, gv2, gv4] 111, .sl gv2 3 1 (gl3.map I)]) rfl mixed (fun _ hw => hw.drew) (fun _ hw => hw.sel [0, 1, 2, 3] (by decide) rfl) ?_
                                          refine V.y (i := 0) (Nx.of (by kernel_rfl) rfl) rfl rfl rfl (Y.move rfl) ?_
                                          refine V.y (i := 4) (Nx.of (by kernel_rfl) rfl) rfl rfl rfl (Y.move rfl) ?_
                                          refine V.y (i := 5) (Nx.of (by kernel_rfl) rfl) rfl rfl rfl (Y.move rfl) ?_
                                          refine V.y (i := 9) (Nx.of (by kernel_rfl) rfl) rfl rfl rfl (Y.move rfl) ?_
                                          refine V.eff2 (i1 := 1) (i2 := 6) (by kernel_rfl) rfl rfl ?_ ?_
                                          ·
                                            refine L.y rfl (Y.nilCheck rfl) ?_
                                            refine L.nil ?_
                                            refine E.toV (D' := Cls w [] [.obj b3 [.int .i64 0, .slice none 0 0, .slice none 0 0] 111, .obj b2 [.int .i64 a1.Kind, .int .i64 a1.Who, .int .i64 a1.By] 113, .obj gb1 [.int .i64 a0.Lead, gv2, gv4] 111, .sl gv2 3 1 (gl3.map I)]) (fun _ hw => hw) (fun _ hw => hw.sel [0, 1, 2, 3] (by decide) rfl) ?_
                                            refine V.y (i := 2) (Nx.of (by kernel_rfl) rfl) rfl rfl rfl (Y.fieldP fd111_2 rfl) ?_
                                            refine V.y (i := 3) (Nx.of (by kernel_rfl) rfl) rfl rfl rfl (Y.loadP (i := 2) ag24 rfl rfl rfl) ?_
                                            refine V.eff (i := 6) (by kernel_rfl) rfl ?_
                                            refine L.y rfl (Y.nilCheck rfl) ?_
                                            refine L.nil ?_
                                            refine E.toV (D' := Cls w [] [.obj b3 [.int .i64 0, .slice none 0 0, .slice none 0 0] 111, .obj b2 [.int .i64 a1.Kind, .int .i64 a1.Who, .int .i64 a1.By] 113, .obj gb1 [.int .i64 a0.Lead, gv2, gv4] 111, .sl gv2 3 1 (gl3.map I)]) (fun _ hw => hw) (fun _ hw => hw.sel [0, 1, 2, 3] (by decide) rfl) ?_
                                            refine V.y (i := 7) (Nx.of (by kernel_rfl) rfl) rfl rfl rfl (Y.fieldP fd111_2 rfl) ?_
                                            refine V.y (i := 8) (Nx.of (by kernel_rfl) rfl) rfl rfl rfl (Y.loadP (i := 2) ag24 rfl rfl rfl) ?_
                                            refine V.eff (i := 10) (by kernel_rfl) rfl ?_
                                            refine L.m (V := fun _ => el gv4 (a1.By.toNat * 1)) h rfl (Y.indexM (g := I) (l := gl5) Try.underlying24 sz3 rfl rfl (fun w hw => As.at_ (hw.get (i := 4) rfl))) (fun x28 ex28 h => ?_)
                                            refine L.nil ?_
                                            refine E.toV (D' := Cls w [] [.obj b3 [.int .i64 0, .slice none 0 0, .slice none 0 0] 111, .obj b2 [.int .i64 a1.Kind, .int .i64 a1.Who, .int .i64 a1.By] 113, .obj gb1 [.int .i64 a0.Lead, gv2, gv4] 111, .sl gv2 3 1 (gl3.map I)]) (fun _ hw => hw) (fun _ hw => hw.sel [0, 1, 2, 3] (by decide) rfl) ?_
                                            refine V.eff (i := 11) (by kernel_rfl) rfl ?_
                                            refine L.storeSlM (q := 4) (row := I) (vs := [.int .i64 3]) (j := 0) (u1 := 3) h sz3 rfl rfl rfl rfl rfl (all1 rfl all0) rfl ex28 rfl rfl ?_
                                            intro l29 el29 h
                                            refine L.nil ?_
                                            refine E.toV (D' := Cls w [] [.obj b3 [.int .i64 0, .slice none 0 0, .slice none 0 0] 111, .obj b2 [.int .i64 a1.Kind, .int .i64 a1.Who, .int .i64 a1.By] 113, .obj gb1 [.int .i64 a0.Lead, gv2, gv4] 111, .sl gv2 3 1 (gl3.map I)]) (fun _ hw => hw) (fun _ hw => hw.sel [0, 1, 2, 3] (by decide) rfl) ?_
                                            refine V.eff (i := 12) (by kernel_rfl) rfl ?_
                                            refine L.m (V := fun _ => el gv4 (a1.Who.toNat * 1)) h rfl (Y.indexM (g := I) (l := l29) Try.underlying24 sz3 rfl rfl (fun w hw => As.at_ (hw.get (i := 4) rfl))) (fun x30 ex30 h => ?_)
                                            refine L.nil ?_
                                            refine E.toV (D' := Cls w [] [.obj b3 [.int .i64 0, .slice none 0 0, .slice none 0 0] 111, .obj b2 [.int .i64 a1.Kind, .int .i64 a1.Who, .int .i64 a1.By] 113, .obj gb1 [.int .i64 a0.Lead, gv2, gv4] 111, .sl gv2 3 1 (gl3.map I)]) (fun _ hw => hw) (fun _ hw => hw.sel [0, 1, 2, 3] (by decide) rfl) ?_
                                            refine V.eff (i := 13) (by kernel_rfl) rfl ?_
                                            refine L.storeSlM (q := 4) (row := I) (vs := [.int .i64 3]) (j := 0) (u1 := 3) h sz3 rfl rfl rfl rfl rfl (all1 rfl all0) rfl ex30 rfl rfl ?_
                                            intro l31 el31 h
                                            refine L.nil ?_
                                            refine E.toV (D' := Cls w [] [.obj b3 [.int .i64 0, .slice none 0 0, .slice none 0 0] 111, .obj b2 [.int .i64 a1.Kind, .int .i64 a1.Who, .int .i64 a1.By] 113, .obj gb1 [.int .i64 a0.Lead, gv2, gv4] 111, .sl gv2 3 1 (gl3.map I)]) (fun _ hw => hw) (fun _ hw => hw.sel [0, 1, 2, 3] (by decide) rfl) ?_
                                            refine V.done (by kernel_rfl) ?_
                                            refine E.blockN ?_
                                            refine E.end0 rfl (fun w1 hw => ?_)
                                            exact ⟨_, _, rfl, ⟨l31, rfl, rfl, h⟩, (fun _ hw => hw) _ hw⟩
                                          ·
                                            refine L.y rfl (Y.nilCheck rfl) ?_
                                            refine L.nil ?_
                                            refine E.toV (D' := Cls w [] [.obj b3 [.int .i64 0, .slice none 0 0, .slice none 0 0] 111, .obj b2 [.int .i64 a1.Kind, .int .i64 a1.Who, .int .i64 a1.By] 113, .obj gb1 [.int .i64 a0.Lead, gv2, gv4] 111, .sl gv2 3 1 (gl3.map I)]) (fun _ hw => hw) (fun _ hw => hw.sel [0, 1, 2, 3] (by decide) rfl) ?_
                                            refine V.y (i := 7) (Nx.of (by kernel_rfl) rfl) rfl rfl rfl (Y.fieldP fd111_2 rfl) ?_
                                            refine V.y (i := 8) (Nx.of (by kernel_rfl) rfl) rfl rfl rfl (Y.loadP (i := 2) ag24 rfl rfl rfl) ?_
                                            refine V.eff (i := 1) (by kernel_rfl) rfl ?_
                                            refine L.y rfl (Y.nilCheck rfl) ?_
                                            refine L.nil ?_
                                            refine E.toV (D' := Cls w [] [.obj b3 [.int .i64 0, .slice none 0 0, .slice none 0 0] 111, .obj b2 [.int .i64 a1.Kind, .int .i64 a1.Who, .int .i64 a1.By] 113, .obj gb1 [.int .i64 a0.Lead, gv2, gv4] 111, .sl gv2 3 1 (gl3.map I)]) (fun _ hw => hw) (fun _ hw => hw.sel [0, 1, 2, 3] (by decide) rfl) ?_
                                            refine V.y (i := 2) (Nx.of (by kernel_rfl) rfl) rfl rfl rfl (Y.fieldP fd111_2 rfl) ?_
                                            refine V.y (i := 3) (Nx.of (by kernel_rfl) rfl) rfl rfl rfl (Y.loadP (i := 2) ag24 rfl rfl rfl) ?_
                                            refine V.eff (i := 10) (by kernel_rfl) rfl ?_
                                            refine L.m (V := fun _ => el gv4 (a1.By.toNat * 1)) h rfl (Y.indexM (g := I) (l := gl5) Try.underlying24 sz3 rfl rfl (fun w hw => As.at_ (hw.get (i := 4) rfl))) (fun x32 ex32 h => ?_)
                                            refine L.nil ?_
                                            refine E.toV (D' := Cls w [] [.obj b3 [.int .i64 0, .slice none 0 0, .slice none 0 0] 111, .obj b2 [.int .i64 a1.Kind, .int .i64 a1.Who, .int .i64 a1.By] 113, .obj gb1 [.int .i64 a0.Lead, gv2, gv4] 111, .sl gv2 3 1 (gl3.map I)]) (fun _ hw => hw) (fun _ hw => hw.sel [0, 1, 2, 3] (by decide) rfl) ?_
                                            refine V.eff (i := 11) (by kernel_rfl) rfl ?_
                                            refine L.storeSlM (q := 4) (row := I) (vs := [.int .i64 3]) (j := 0) (u1 := 3) h sz3 rfl rfl rfl rfl rfl (all1 rfl all0) rfl ex32 rfl rfl ?_
                                            intro l33 el33 h
                                            refine L.nil ?_
                                            refine E.toV (D' := Cls w [] [.obj b3 [.int .i64 0, .slice none 0 0, .slice none 0 0] 111, .obj b2 [.int .i64 a1.Kind, .int .i64 a1.Who, .int .i64 a1.By] 113, .obj gb1 [.int .i64 a0.Lead, gv2, gv4] 111, .sl gv2 3 1 (gl3.map I)]) (fun _ hw => hw) (fun _ hw => hw.sel [0, 1, 2, 3] (by decide) rfl) ?_
                                            refine V.eff (i := 12) (by kernel_rfl) rfl ?_
                                            refine L.m (V := fun _ => el gv4 (a1.Who.toNat * 1)) h rfl (Y.indexM (g := I) (l := l33) Try.underlying24 sz3 rfl rfl (fun w hw => As.at_ (hw.get (i := 4) rfl))) (fun x34 ex34 h => ?_)
                                            refine L.nil ?_
                                            refine E.toV (D' := Cls w [] [.obj b3 [.int .i64 0, .slice none 0 0, .slice none 0 0] 111, .obj b2 [.int .i64 a1.Kind, .int .i64 a1.Who, .int .i64 a1.By] 113, .obj gb1 [.int .i64 a0.Lead, gv2, gv4] 111, .sl gv2 3 1 (gl3.map I)]) (fun _ hw => hw) (fun _ hw => hw.sel [0, 1, 2, 3] (by decide) rfl) ?_
                                            refine V.eff (i := 13) (by kernel_rfl) rfl ?_
                                            refine L.storeSlM (q := 4) (row := I) (vs := [.int .i64 3]) (j := 0) (u1 := 3) h sz3 rfl rfl rfl rfl rfl (all1 rfl all0) rfl ex34 rfl rfl ?_
                                            intro l35 el35 h
                                            refine L.nil ?_
                                            refine E.toV (D' := Cls w [] [.obj b3 [.int .i64 0, .slice none 0 0, .slice none 0 0] 111, .obj b2 [.int .i64 a1.Kind, .int .i64 a1.Who, .int .i64 a1.By] 113, .obj gb1 [.int .i64 a0.Lead, gv2, gv4] 111, .sl gv2 3 1 (gl3.map I)]) (fun _ hw => hw) (fun _ hw => hw.sel [0, 1, 2, 3] (by decide) rfl) ?_
                                            refine V.done (by kernel_rfl) ?_
                                            refine E.blockN ?_
                                            refine E.end0 rfl (fun w1 hw => ?_)
                                            exact ⟨_, _, rfl, ⟨l35, rfl, rfl, h⟩, (fun _ hw => hw) _ hw⟩
                                  ·
                                    rintro _ _ ⟨gl13, rfl, rfl, h⟩
                                    rw [m74_pact_Step_K9] at h
                                    refine L.nil ?_
                                    refine E.blockN ?_
                                    exact E.joinJ ⟨a0.Lead, gl3, gl13, rfl, rfl, h⟩ ⟨rfl, rfl, trivial⟩ (fun _ hw => hw.sel [0, 2, 3, 4] (by decide) rfl)
                                ·
                                  refine L.y rfl (Y.assign rfl) ?_
                                  refine L.nil ?_
                                  refine E.thenN ?_
                                  refine W.condF rfl ?_
                                  refine W.skip ?_
                                  refine E.blockN ?_
                                  exact E.joinJ ⟨a0.Lead, gl3, gl5, rfl, rfl, h⟩ ⟨rfl, rfl, trivial⟩ (fun _ hw => hw.sel [0, 2, 3, 4] (by decide) rfl)
                              ·
                                replace h := iteT h
                                refine W.condT rfl ?_
                                refine W.region ?_
                                refine L.y rfl (Y.fieldP fd113_1 rfl) ?_
                                refine L.y rfl (Y.loadP (i := 1) ag3 rfl rfl rfl) ?_
                                refine L.callJ (fun v D => ∃ (gl16 : (List Int)), v = .tuple #[] ∧ D = Cls w [] [.obj b3 [.int .i64 0, .slice none 0 0, .slice none 0 0] 111, .obj b2 [.int .i64 a1.Kind, .int .i64 a1.Who, .int .i64 a1.By] 113, .obj gb1 [.int .i64 a0.Lead, gv2, gv4] 111, .sl gv2 3 1 (gl3.map I), .sl gv4 3 1 (gl16.map I)] ∧ m74_pact_Step_K13 a0 gl3 gl16 = some r) rfl en131 rfl Try.func131 rfl rfl rfl ?_ ?_
                                ·
                                  refine W.seqJ (fun gs D => ∃ (gb17 : Bool), gs = [(0, pt gb1 0), (1, .int .i64 a1.Who), (4, .bool gb17)] ∧ D = Cls w [] [.obj b3 [.int .i64 0, .slice none 0 0, .slice none 0 0] 111, .obj b2 [.int .i64 a1.Kind, .int .i64 a1.Who, .int .i64 a1.By] 113, .obj gb1 [.int .i64 a0.Lead, gv2, gv4] 111, .sl gv2 3 1 (gl3.map I), .sl gv4 3 1 (gl5.map I)] ∧ m74_pact_Step_K14 a0 gl5 a1 gl3 gb17 = some r) ?_ ?_
                                  ·
                                    refine W.region ?_
                                    refine L.cutJ 18 (fun gs D => ∃ (gb18 : Bool), gs = [(0, pt gb1 0), (1, .int .i64 a1.Who), (22, .bool gb18)] ∧ D = Cls w [] [.obj b3 [.int .i64 0, .slice none 0 0, .slice none 0 0] 111, .obj b2 [.int .i64 a1.Kind, .int .i64 a1.Who, .int .i64 a1.By] 113, .obj gb1 [.int .i64 a0.Lead, gv2, gv4] 111, .sl gv2 3 1 (gl3.map I), .sl gv4 3 1 (gl5.map I)] ∧ m74_pact_Step_K15 a0 gl5 a1 gl3 gb18 = some r) ?_ ?_
                                    ·
                                      refine L.y rfl (Y.move rfl) ?_
                                      refine L.y rfl (Y.nilCheck rfl) ?_
                                      refine L.y rfl (Y.fieldP fd111_2 rfl) ?_
                                      refine L.y rfl (Y.loadP (i := 2) ag24 rfl rfl rfl) ?_
                                      refine L.y rfl (Y.move rfl) ?_
                                      refine L.m (V := fun _ => el gv4 (a1.Who.toNat * 1)) h rfl (Y.indexM (g := I) (l := gl5) Try.underlying24 sz3 rfl rfl (fun w hw => As.at_ (hw.get (i := 4) rfl))) (fun x46 ex46 h => ?_)
                                      refine L.y rfl (Y.loadE1 (u := .int .i64 x46) ag3 rfl (fun w hw => As.at_ (hw.get (i := 4) rfl)) (idx_map ex46)) ?_
                                      refine L.ite h rfl (Y.eql rfl rfl) (fun c47 h => ?_) (fun c47 h => ?_)
                                      ·
                                        refine L.y rfl (Y.move rfl) ?_
                                        refine L.pass rfl rfl (by nofun) ?_
                                        refine L.pass rfl rfl (by nofun) ?_
                                        refine L.pass rfl rfl (by nofun) ?_
                                        refine L.pass rfl rfl (by nofun) ?_
                                        refine L.pass rfl rfl (by nofun) ?_
                                        refine L.pass rfl rfl (by nofun) ?_
                                        refine L.pass rfl rfl (by nofun) ?_
                                        refine L.pass rfl rfl (by nofun) ?_
                                        refine L.y rfl (Y.pickT rfl rfl) ?_
                                        refine L.nil ?_
                                        exact E.joinJ ⟨true, rfl, rfl, h⟩ ⟨rfl, rfl, rfl, trivial⟩ (fun _ hw => hw)
                                      ·
                                        refine L.y rfl (Y.move rfl) ?_
                                        refine L.take rfl ?_
                                        refine L.y rfl (Y.move rfl) ?_
                                        refine L.take rfl ?_
                                        refine L.y rfl (Y.nilCheck rfl) ?_
                                        refine L.take rfl ?_
                                        refine L.y rfl (Y.fieldP fd111_2 rfl) ?_
                                        refine L.take rfl ?_
                                        refine L.y rfl (Y.loadP (i := 2) ag24 rfl rfl rfl) ?_
                                        refine L.take rfl ?_
                                        refine L.y rfl (Y.move rfl) ?_
                                        refine L.take rfl ?_
                                        refine L.m (V := fun _ => el gv4 (a1.Who.toNat * 1)) h rfl (Y.indexM (g := I) (l := gl5) Try.underlying24 sz3 rfl rfl (fun w hw => As.at_ (hw.get (i := 4) rfl))) (fun x48 ex48 h => ?_)
                                        refine L.take rfl ?_
                                        refine L.y rfl (Y.loadE1 (u := .int .i64 x48) ag3 rfl (fun w hw => As.at_ (hw.get (i := 4) rfl)) (idx_map ex48)) ?_
                                        refine L.take rfl ?_
                                        refine L.ite h rfl (Y.eql rfl rfl) (fun c49 h => ?_) (fun c49 h => ?_)
                                        ·
                                          refine L.y rfl (Y.pickF rfl rfl) ?_
                                          refine L.nil ?_
                                          exact E.joinJ ⟨true, rfl, rfl, h⟩ ⟨rfl, rfl, rfl, trivial⟩ (fun _ hw => hw)
                                        ·
                                          refine L.y rfl (Y.pickF rfl rfl) ?_
                                          refine L.nil ?_
                                          exact E.joinJ ⟨false, rfl, rfl, h⟩ ⟨rfl, rfl, rfl, trivial⟩ (fun _ hw => hw)
                                    ·
                                      rintro _ _ ⟨gb18, rfl, rfl, h⟩
                                      rw [m74_pact_Step_K15] at h
                                      rcases gb18 with _ | _
                                      ·
                                        replace h := iteF h
                                        refine L.y rfl (Y.assign rfl) ?_
                                        refine L.nil ?_
                                        exact E.joinJ ⟨false, rfl, rfl, h⟩ ⟨rfl, rfl, rfl, trivial⟩ (fun _ hw => hw)
                                      ·
                                        replace h := iteT h
                                        refine L.y rfl (Y.assign rfl) ?_
                                        refine L.nil ?_
                                        exact E.joinJ ⟨true, rfl, rfl, h⟩ ⟨rfl, rfl, rfl, trivial⟩ (fun _ hw => hw)
                                  ·
                                    rintro _ _ ⟨gb17, rfl, rfl, h⟩
                                    rw [m74_pact_Step_K14] at h
                                    rcases gb17 with _ | _
                                    ·
                                      replace h := iteF h
                                      refine W.block ?_
                                      refine W.seq ?_
                                      refine W.region ?_
                                      refine L.y rfl (Y.move rfl) ?_
                                      refine L.y rfl (Y.move rfl) ?_
                                      refine L.pass rfl rfl (by nofun) ?_
                                      refine L.pass rfl rfl (by nofun) ?_
                                      refine L.pass rfl rfl (by nofun) ?_
                                      refine L.pass rfl rfl (by nofun) ?_
                                      refine L.pass rfl rfl (by nofun) ?_
                                      refine L.y rfl (Y.pickF rfl rfl) ?_
                                      refine L.y rfl (Y.assign rfl) ?_
                                      refine L.nil ?_
                                      refine E.thenN ?_
                                      refine W.condF rfl ?_
                                      refine W.seq ?_
                                      refine W.region ?_
                                      refine L.y rfl (Y.move rfl) ?_
                                      refine L.y rfl (Y.move rfl) ?_
                                      refine L.pass rfl rfl (by nofun) ?_
                                      refine L.pass rfl rfl (by nofun) ?_
                                      refine L.pass rfl rfl (by nofun) ?_
                                      refine L.pass rfl rfl (by nofun) ?_
                                      refine L.pass rfl rfl (by nofun) ?_
                                      refine L.y rfl (Y.pickF rfl rfl) ?_
                                      refine L.y rfl (Y.assign rfl) ?_
                                      refine L.nil ?_
                                      refine E.thenN ?_
                                      refine W.condF rfl ?_
                                      refine W.skip ?_
                                      refine E.blockN ?_
                                      refine E.end0 rfl (fun w1 hw => ?_)
                                      exact ⟨_, _, rfl, ⟨gl5, rfl, rfl, h⟩, (fun _ hw => hw) _ hw⟩
                                    ·
                                      replace h := iteT h
                                      refine W.block ?_
                                      refine W.seq ?_
                                      refine W.region ?_
                                      refine L.y rfl (Y.move rfl) ?_
                                      refine L.y rfl (Y.move rfl) ?_
                                      refine L.take rfl ?_
                                      refine L.y rfl (Y.move rfl) ?_
                                      refine L.take rfl ?_
                                      refine L.y rfl (Y.nilCheck rfl) ?_
                                      refine L.take rfl ?_
                                      refine L.y rfl (Y.fieldP fd111_0 rfl) ?_
                                      refine L.take rfl ?_
                                      refine L.y rfl (Y.loadP (i := 2) ag3 rfl rfl rfl) ?_
                                      refine L.take rfl ?_
                                      refine L.ite h rfl (Y.eql rfl rfl) (fun c40 h => ?_) (fun c40 h => ?_)
                                      ·
                                        refine L.y rfl (Y.pickT rfl rfl) ?_
                                        refine L.y rfl (Y.assign rfl) ?_
                                        refine L.nil ?_
                                        refine E.thenN ?_
                                        refine W.condT rfl ?_
                                        refine W.region ?_
                                        refine L.y rfl (Y.move rfl) ?_
                                        refine L.y rfl (Y.nilCheck rfl) ?_
                                        refine L.y rfl (Y.fieldP fd111_2 rfl) ?_
                                        refine L.y rfl (Y.loadP (i := 2) ag24 rfl rfl rfl) ?_
                                        refine L.y rfl (Y.move rfl) ?_
                                        refine L.m (V := fun _ => el gv4 (a1.Who.toNat * 1)) h rfl (Y.indexM (g := I) (l := gl5) Try.underlying24 sz3 rfl rfl (fun w hw => As.at_ (hw.get (i := 4) rfl))) (fun x41 ex41 h => ?_)
                                        refine L.storeSlM (q := 4) (row := I) (vs := [.int .i64 2]) (j := 0) (u1 := 2) h sz3 rfl rfl rfl rfl rfl (all1 rfl all0) rfl ex41 rfl rfl ?_
                                        intro l42 el42 h
                                        refine L.nil ?_
                                        refine E.blockN ?_
                                        refine E.end0 rfl (fun w1 hw => ?_)
                                        exact ⟨_, _, rfl, ⟨l42, rfl, rfl, h⟩, (fun _ hw => hw) _ hw⟩
                                      ·
                                        refine L.y rfl (Y.pickT rfl rfl) ?_
                                        refine L.y rfl (Y.assign rfl) ?_
                                        refine L.nil ?_
                                        refine E.thenN ?_
                                        refine W.condF rfl ?_
                                        refine W.seq ?_
                                        refine W.region ?_
                                        refine L.y rfl (Y.move rfl) ?_
                                        refine L.y rfl (Y.move rfl) ?_
                                        refine L.take rfl ?_
                                        refine L.y rfl (Y.move rfl) ?_
                                        refine L.take rfl ?_
                                        refine L.y rfl (Y.nilCheck rfl) ?_
                                        refine L.take rfl ?_
                                        refine L.y rfl (Y.fieldP fd111_0 rfl) ?_
                                        refine L.take rfl ?_
                                        refine L.y rfl (Y.loadP (i := 2) ag3 rfl rfl rfl) ?_
                                        refine L.take rfl ?_
                                        refine L.ite h rfl (Y.eql rfl rfl) (fun c43 h => ?_) (fun c43 h => ?_)
                                        ·
                                          refine L.y rfl (Y.pickT rfl rfl) ?_
                                          refine L.y rfl (Y.assign rfl) ?_
                                          refine L.nil ?_
                                          refine E.thenN ?_
                                          refine W.condT rfl ?_
                                          refine W.region ?_
                                          refine L.y rfl (Y.move rfl) ?_
                                          refine L.y rfl (Y.nilCheck rfl) ?_
                                          refine L.y rfl (Y.fieldP fd111_2 rfl) ?_
                                          refine L.y rfl (Y.loadP (i := 2) ag24 rfl rfl rfl) ?_
                                          refine L.y rfl (Y.move rfl) ?_
                                          refine L.m (V := fun _ => el gv4 (a1.Who.toNat * 1)) h rfl (Y.indexM (g := I) (l := gl5) Try.underlying24 sz3 rfl rfl (fun w hw => As.at_ (hw.get (i := 4) rfl))) (fun x44 ex44 h => ?_)
                                          refine L.storeSlM (q := 4) (row := I) (vs := [.int .i64 3]) (j := 0) (u1 := 3) h sz3 rfl rfl rfl rfl rfl (all1 rfl all0) rfl ex44 rfl rfl ?_
                                          intro l45 el45 h
                                          refine L.nil ?_
                                          refine E.blockN ?_
                                          refine E.end0 rfl (fun w1 hw => ?_)
                                          exact ⟨_, _, rfl, ⟨l45, rfl, rfl, h⟩, (fun _ hw => hw) _ hw⟩
                                        ·
                                          refine L.y rfl (Y.pickT rfl rfl) ?_
                                          refine L.y rfl (Y.assign rfl) ?_
                                          refine L.nil ?_
                                          refine E.thenN ?_
                                          refine W.condF rfl ?_
                                          refine W.skip ?_
                                          refine E.blockN ?_
                                          refine E.end0 rfl (fun w1 hw => ?_)
                                          exact ⟨_, _, rfl, ⟨gl5, rfl, rfl, h⟩, (fun _ hw => hw) _ hw⟩
                                ·
                                  rintro _ _ ⟨gl16, rfl, rfl, h⟩
                                  rw [m74_pact_Step_K13] at h
                                  refine L.nil ?_
                                  refine E.blockN ?_
                                  exact E.joinJ ⟨a0.Lead, gl3, gl16, rfl, rfl, h⟩ ⟨rfl, rfl, trivial⟩ (fun _ hw => hw.sel [0, 2, 3, 4] (by decide) rfl)
                        ·
                          replace h := iteT h
                          refine W.condT rfl ?_
                          refine W.region ?_
                          refine L.callJ (fun v D => ∃ (gx19 : Int), v = .tuple #[] ∧ D = Cls w [] [.obj b3 [.int .i64 0, .slice none 0 0, .slice none 0 0] 111, .obj b2 [.int .i64 a1.Kind, .int .i64 a1.Who, .int .i64 a1.By] 113, .obj gb1 [.int .i64 gx19, gv2, gv4] 111, .sl gv2 3 1 (gl3.map I), .sl gv4 3 1 (gl5.map I)] ∧ m74_pact_Step_K16 gl3 gl5 gx19 = some r) rfl en130 rfl Try.func130 rfl rfl rfl ?_ ?_
                          ·
                            refine W.block ?_
                            refine W.seq ?_
                            refine W.region ?_
                            refine L.y rfl (Y.move rfl) ?_
                            refine L.y rfl (Y.nilCheck rfl) ?_
                            refine L.y rfl (Y.fieldP fd111_0 rfl) ?_
                            refine L.y rfl (Y.loadP (i := 2) ag3 rfl rfl rfl) ?_
                            refine L.ite h rfl (Y.neq rfl rfl) (fun c51 h => ?_) (fun c51 h => ?_)
                            ·
                              refine L.y rfl (Y.assign rfl) ?_
                              refine L.nil ?_
                              refine E.thenN ?_
                              refine W.condT rfl ?_
                              refine W.skip ?_
                              refine E.blockN ?_
                              refine E.end0 rfl (fun w1 hw => ?_)
                              exact ⟨_, _, rfl, ⟨a0.Lead, rfl, rfl, h⟩, (fun _ hw => hw) _ hw⟩
                            ·
                              refine L.y rfl (Y.assign rfl) ?_
                              refine L.nil ?_
                              refine E.thenN ?_
                              refine W.condF rfl ?_
                              refine W.seq ?_
                              refine W.region ?_
                              refine L.y rfl (Y.move rfl) ?_
                              refine L.y rfl (Y.nilCheck rfl) ?_
                              refine L.y rfl (Y.fieldP fd111_1 rfl) ?_
                              refine L.y rfl (Y.loadP (i := 2) ag24 rfl rfl rfl) ?_
                              obtain ⟨b52, e53, h⟩ := bind1S h
                              refine L.y rfl (Y.does en134 rfl (fun w' hw => (w134_slices_Contains_int gl3 2 gv2 w' _ e53 (As.at_ (hw.get (i := 3) rfl))).mono (fun _ _ h => h.1))) ?_
                              rcases b52 with _ | _
                              ·
                                replace h := iteF h
                                refine L.y rfl (Y.assign rfl) ?_
                                refine L.nil ?_
                                refine E.thenN ?_
                                refine W.condF rfl ?_
                                refine W.seq ?_
                                refine W.region ?_
                                refine L.y rfl (Y.move rfl) ?_
                                refine L.y rfl (Y.nilCheck rfl) ?_
                                refine L.y rfl (Y.fieldP fd111_1 rfl) ?_
                                refine L.y rfl (Y.loadP (i := 2) ag24 rfl rfl rfl) ?_
                                obtain ⟨b54, e55, h⟩ := bind1S h
                                refine L.y rfl (Y.does en134 rfl (fun w' hw => (w134_slices_Contains_int gl3 0 gv2 w' _ e55 (As.at_ (hw.get (i := 3) rfl))).mono (fun _ _ h => h.1))) ?_
                                rcases b54 with _ | _
                                ·
                                  replace h := iteF h
                                  refine L.y rfl (Y.not rfl) ?_
                                  refine L.y rfl (Y.assign rfl) ?_
                                  refine L.nil ?_
                                  refine E.thenN ?_
                                  refine W.condT rfl ?_
                                  refine W.region ?_
                                  refine L.y rfl (Y.move rfl) ?_
                                  refine L.y rfl (Y.nilCheck rfl) ?_
                                  refine L.y rfl (Y.fieldP fd111_0 rfl) ?_
                                  refine L.store (i := 2) sz3 rfl rfl rfl rfl (by simp [Value.oneCell', Value.cells, st]) rfl (Nat.le_of_ble_eq_true rfl) ?_
                                  refine L.nil ?_
                                  refine E.blockN ?_
                                  refine E.end0 rfl (fun w1 hw => ?_)
                                  exact ⟨_, _, rfl, ⟨1, rfl, rfl, h⟩, (fun _ hw => hw) _ hw⟩
                                ·
                                  replace h := iteT h
                                  refine L.y rfl (Y.not rfl) ?_
                                  refine L.y rfl (Y.assign rfl) ?_
                                  refine L.nil ?_
                                  refine E.thenN ?_
                                  refine W.condF rfl ?_
                                  refine W.skip ?_
                                  refine E.blockN ?_
                                  refine E.end0 rfl (fun w1 hw => ?_)
                                  exact ⟨_, _, rfl, ⟨a0.Lead, rfl, rfl, h⟩, (fun _ hw => hw) _ hw⟩
                              ·
                                replace h := iteT h
                                refine L.y rfl (Y.assign rfl) ?_
                                refine L.nil ?_
                                refine E.thenN ?_
                                refine W.condT rfl ?_
                                refine W.region ?_
                                refine L.y rfl (Y.move rfl) ?_
                                refine L.y rfl (Y.nilCheck rfl) ?_
                                refine L.y rfl (Y.fieldP fd111_0 rfl) ?_
                                refine L.store (i := 2) sz3 rfl rfl rfl rfl (by simp [Value.oneCell', Value.cells, st]) rfl (Nat.le_of_ble_eq_true rfl) ?_
                                refine L.nil ?_
                                refine E.blockN ?_
                                refine E.end0 rfl (fun w1 hw => ?_)
                                exact ⟨_, _, rfl, ⟨2, rfl, rfl, h⟩, (fun _ hw => hw) _ hw⟩
                          ·
                            rintro _ _ ⟨gx19, rfl, rfl, h⟩
                            rw [m74_pact_Step_K16] at h
                            refine L.nil ?_
                            refine E.blockN ?_
                            exact E.joinJ ⟨gx19, gl3, gl5, rfl, rfl, h⟩ ⟨rfl, rfl, trivial⟩ (fun _ hw => hw.sel [0, 2, 3, 4] (by decide) rfl)
                    ·
                      replace h := iteT h
                      refine W.condT rfl ?_
                      refine W.region ?_
                      refine L.y rfl (Y.fieldP fd113_1 rfl) ?_
                      refine L.y rfl (Y.loadP (i := 1) ag3 rfl rfl rfl) ?_
                      refine L.callJ (fun v D => ∃ (gl20 : (List Int)), v = .tuple #[] ∧ D = Cls w [] [.obj b3 [.int .i64 0, .slice none 0 0, .slice none 0 0] 111, .obj b2 [.int .i64 a1.Kind, .int .i64 a1.Who, .int .i64 a1.By] 113, .obj gb1 [.int .i64 a0.Lead, gv2, gv4] 111, .sl gv2 3 1 (gl20.map I), .sl gv4 3 1 (gl5.map I)] ∧ m74_pact_Step_K17 a0 gl5 gl20 = some r) rfl en129 rfl Try.func129 rfl rfl rfl ?_ ?_
                      ·
                        refine W.block ?_
                        refine W.seq ?_
                        refine W.region ?_
                        refine L.y rfl (Y.move rfl) ?_
                        refine L.y rfl (Y.nilCheck rfl) ?_
                        refine L.y rfl (Y.fieldP fd111_0 rfl) ?_
                        refine L.y rfl (Y.loadP (i := 2) ag3 rfl rfl rfl) ?_
                        refine L.ite h rfl (Y.neq rfl rfl) (fun c57 h => ?_) (fun c57 h => ?_)
                        ·
                          refine L.y rfl (Y.assign rfl) ?_
                          refine L.nil ?_
                          refine E.thenN ?_
                          refine W.condT rfl ?_
                          refine W.skip ?_
                          refine E.blockN ?_
                          refine E.end0 rfl (fun w1 hw => ?_)
                          exact ⟨_, _, rfl, ⟨gl3, rfl, rfl, h⟩, (fun _ hw => hw) _ hw⟩
                        ·
                          refine L.y rfl (Y.assign rfl) ?_
                          refine L.nil ?_
                          refine E.thenN ?_
                          refine W.condF rfl ?_
                          refine W.seq ?_
                          refine W.region ?_
                          refine L.y rfl (Y.move rfl) ?_
                          refine L.y rfl (Y.nilCheck rfl) ?_
                          refine L.y rfl (Y.fieldP fd111_2 rfl) ?_
                          refine L.y rfl (Y.loadP (i := 2) ag24 rfl rfl rfl) ?_
                          refine L.y rfl (Y.move rfl) ?_
                          refine L.m (V := fun _ => el gv4 (a1.Who.toNat * 1)) h rfl (Y.indexM (g := I) (l := gl5) Try.underlying24 sz3 rfl rfl (fun w hw => As.at_ (hw.get (i := 4) rfl))) (fun x58 ex58 h => ?_)
                          refine L.y rfl (Y.loadE1 (u := .int .i64 x58) ag3 rfl (fun w hw => As.at_ (hw.get (i := 4) rfl)) (idx_map ex58)) ?_
                          refine L.ite h rfl (Y.eql rfl rfl) (fun c59 h => ?_) (fun c59 h => ?_)
                          ·
                            refine L.y rfl (Y.assign rfl) ?_
                            refine L.nil ?_
                            refine E.thenN ?_
                            refine W.condT rfl ?_
                            refine W.region ?_
                            refine L.y rfl (Y.move rfl) ?_
                            refine L.y rfl (Y.nilCheck rfl) ?_
                            refine L.y rfl (Y.fieldP fd111_1 rfl) ?_
                            refine L.y rfl (Y.loadP (i := 2) ag24 rfl rfl rfl) ?_
                            refine L.y rfl (Y.move rfl) ?_
                            refine L.m (V := fun _ => el gv2 (a1.Who.toNat * 1)) h rfl (Y.indexM (g := I) (l := gl3) Try.underlying24 sz3 rfl rfl (fun w hw => As.at_ (hw.get (i := 3) rfl))) (fun x60 ex60 h => ?_)
                            refine L.storeSlM (q := 3) (row := I) (vs := [.int .i64 1]) (j := 0) (u1 := 1) h sz3 rfl rfl rfl rfl rfl (all1 rfl all0) rfl ex60 rfl rfl ?_
                            intro l61 el61 h
                            refine L.nil ?_
                            refine E.blockN ?_
                            refine E.end0 rfl (fun w1 hw => ?_)
                            exact ⟨_, _, rfl, ⟨l61, rfl, rfl, h⟩, (fun _ hw => hw) _ hw⟩
                          ·
                            refine L.y rfl (Y.assign rfl) ?_
                            refine L.nil ?_
                            refine E.thenN ?_
                            refine W.condF rfl ?_
                            refine W.seq ?_
                            refine W.region ?_
                            refine L.cutJ 18 (fun gs D => ∃ (gb21 : Bool), gs = [(0, pt gb1 0), (1, .int .i64 a1.Who), (43, .bool gb21)] ∧ D = Cls w [] [.obj b3 [.int .i64 0, .slice none 0 0, .slice none 0 0] 111, .obj b2 [.int .i64 a1.Kind, .int .i64 a1.Who, .int .i64 a1.By] 113, .obj gb1 [.int .i64 a0.Lead, gv2, gv4] 111, .sl gv2 3 1 (gl3.map I), .sl gv4 3 1 (gl5.map I)] ∧ m74_pact_Step_K18 gl3 a1 a0 gl5 gb21 = some r) ?_ ?_
                            ·
                              refine L.y rfl (Y.move rfl) ?_
                              refine L.y rfl (Y.nilCheck rfl) ?_
                              refine L.y rfl (Y.fieldP fd111_2 rfl) ?_
                              refine L.y rfl (Y.loadP (i := 2) ag24 rfl rfl rfl) ?_
                              refine L.y rfl (Y.move rfl) ?_
                              refine L.m (V := fun _ => el gv4 (a1.Who.toNat * 1)) h rfl (Y.indexM (g := I) (l := gl5) Try.underlying24 sz3 rfl rfl (fun w hw => As.at_ (hw.get (i := 4) rfl))) (fun x64 ex64 h => ?_)
                              refine L.y rfl (Y.loadE1 (u := .int .i64 x64) ag3 rfl (fun w hw => As.at_ (hw.get (i := 4) rfl)) (idx_map ex64)) ?_
                              refine L.ite h rfl (Y.eql rfl rfl) (fun c65 h => ?_) (fun c65 h => ?_)
                              ·
                                refine L.y rfl (Y.move rfl) ?_
                                refine L.take rfl ?_
                                refine L.y rfl (Y.move rfl) ?_
                                refine L.take rfl ?_
                                refine L.y rfl (Y.nilCheck rfl) ?_
                                refine L.take rfl ?_
                                refine L.y rfl (Y.fieldP fd111_1 rfl) ?_
                                refine L.take rfl ?_
                                refine L.y rfl (Y.loadP (i := 2) ag24 rfl rfl rfl) ?_
                                refine L.take rfl ?_
                                refine L.y rfl (Y.move rfl) ?_
                                refine L.take rfl ?_
                                refine L.m (V := fun _ => el gv2 (a1.Who.toNat * 1)) h rfl (Y.indexM (g := I) (l := gl3) Try.underlying24 sz3 rfl rfl (fun w hw => As.at_ (hw.get (i := 3) rfl))) (fun x66 ex66 h => ?_)
                                refine L.take rfl ?_
                                refine L.y rfl (Y.loadE1 (u := .int .i64 x66) ag3 rfl (fun w hw => As.at_ (hw.get (i := 3) rfl)) (idx_map ex66)) ?_
                                refine L.take rfl ?_
                                refine L.ite h rfl (Y.eql rfl rfl) (fun c67 h => ?_) (fun c67 h => ?_)
                                ·
                                  refine L.y rfl (Y.pickT rfl rfl) ?_
                                  refine L.nil ?_
                                  exact E.joinJ ⟨true, rfl, rfl, h⟩ ⟨rfl, rfl, rfl, trivial⟩ (fun _ hw => hw)
                                ·
                                  refine L.y rfl (Y.pickT rfl rfl) ?_
                                  refine L.nil ?_
                                  exact E.joinJ ⟨false, rfl, rfl, h⟩ ⟨rfl, rfl, rfl, trivial⟩ (fun _ hw => hw)
                              ·
                                refine L.y rfl (Y.move rfl) ?_
                                refine L.pass rfl rfl (by nofun) ?_
                                refine L.pass rfl rfl (by nofun) ?_
                                refine L.pass rfl rfl (by nofun) ?_
                                refine L.pass rfl rfl (by nofun) ?_
                                refine L.pass rfl rfl (by nofun) ?_
                                refine L.pass rfl rfl (by nofun) ?_
                                refine L.pass rfl rfl (by nofun) ?_
                                refine L.pass rfl rfl (by nofun) ?_
                                refine L.y rfl (Y.pickF rfl rfl) ?_
                                refine L.nil ?_
                                exact E.joinJ ⟨false, rfl, rfl, h⟩ ⟨rfl, rfl, rfl, trivial⟩ (fun _ hw => hw)
                            ·
                              rintro _ _ ⟨gb21, rfl, rfl, h⟩
                              rw [m74_pact_Step_K18] at h
                              rcases gb21 with _ | _
                              ·
                                replace h := iteF h
                                refine L.y rfl (Y.assign rfl) ?_
                                refine L.nil ?_
                                refine E.thenN ?_
                                refine W.condF rfl ?_
                                refine W.skip ?_
                                refine E.blockN ?_
                                refine E.end0 rfl (fun w1 hw => ?_)
                                exact ⟨_, _, rfl, ⟨gl3, rfl, rfl, h⟩, (fun _ hw => hw) _ hw⟩
                              ·
                                replace h := iteT h
                                refine L.y rfl (Y.assign rfl) ?_
                                refine L.nil ?_
                                refine E.thenN ?_
                                refine W.condT rfl ?_
                                refine W.region ?_
                                refine L.y rfl (Y.move rfl) ?_
                                refine L.y rfl (Y.nilCheck rfl) ?_
                                refine L.y rfl (Y.fieldP fd111_1 rfl) ?_
                                refine L.y rfl (Y.loadP (i := 2) ag24 rfl rfl rfl) ?_
                                refine L.y rfl (Y.move rfl) ?_
                                refine L.m (V := fun _ => el gv2 (a1.Who.toNat * 1)) h rfl (Y.indexM (g := I) (l := gl3) Try.underlying24 sz3 rfl rfl (fun w hw => As.at_ (hw.get (i := 3) rfl))) (fun x62 ex62 h => ?_)
                                refine L.storeSlM (q := 3) (row := I) (vs := [.int .i64 2]) (j := 0) (u1 := 2) h sz3 rfl rfl rfl rfl rfl (all1 rfl all0) rfl ex62 rfl rfl ?_
                                intro l63 el63 h
                                refine L.nil ?_
                                refine E.blockN ?_
                                refine E.end0 rfl (fun w1 hw => ?_)
                                exact ⟨_, _, rfl, ⟨l63, rfl, rfl, h⟩, (fun _ hw => hw) _ hw⟩
                      ·
                        rintro _ _ ⟨gl20, rfl, rfl, h⟩
                        rw [m74_pact_Step_K17] at h
                        refine L.nil ?_
                        refine E.blockN ?_
                        exact E.joinJ ⟨a0.Lead, gl20, gl5, rfl, rfl, h⟩ ⟨rfl, rfl, trivial⟩ (fun _ hw => hw.sel [0, 2, 3, 4] (by decide) rfl)
            ·
              rintro _ _ ⟨gx7, gl8, gl9, rfl, rfl, h⟩
              rw [m74_pact_Step_K5] at h
              refine W.seq ?_
              refine W.region ?_
              refine L.y rfl (Y.loadPW (i := 1) ag111 sz111 rfl rfl rfl) ?_
              refine L.storeC (i := 0) sz111 rfl rfl rfl rfl (fun w hw => (all1 rfl (all1 (As.at_ (hw.get (i := 2) rfl)).one (all1 (As.at_ (hw.get (i := 3) rfl)).one all0)))) rfl (Nat.le_of_ble_eq_true rfl) ?_
              refine L.y rfl (Y.assign rfl) ?_
              refine L.nil ?_
              refine E.thenN ?_
              refine W.ret ?_
              refine E.retR2 rfl (Rv.cellW (i := 0) ag111 sz111 rfl rfl rfl) (Rv.tmp rfl) (fun w1 hw => ?_)
              obtain rfl := Option.some.inj h
              exact ⟨_, _, rfl, ⟨_, _, rfl, rfl⟩, hw.sel [2, 3] (by decide) rfl⟩
          ·
            replace h := iteT h
            refine W.seqJ (fun gs D => ∃ (gx22 : Int) (gl23 : (List Int)) (gl24 : (List Int)), gs = [(4, pt b3 0), (8, pt gb1 0)] ∧ D = Cls w [] [.obj b3 [.int .i64 0, .slice none 0 0, .slice none 0 0] 111, .obj gb1 [.int .i64 gx22, gv2, gv4] 111, .sl gv2 3 1 (gl23.map I), .sl gv4 3 1 (gl24.map I)] ∧ m74_pact_Step_K19 gx22 gl23 gl24 = some r) ?_ ?_
            ·
              refine W.seq ?_
              refine W.region ?_
              refine L.y rfl (Y.fieldP fd113_0 rfl) ?_
              refine L.y rfl (Y.loadP (i := 1) ag3 rfl rfl rfl) ?_
              refine L.nil ?_
              refine E.thenN ?_
              refine W.block ?_
              refine W.seq ?_
              refine W.region ?_
              refine L.ite h rfl (Y.eql rfl rfl) (fun c69 h => ?_) (fun c69 h => ?_)
              ·
                refine L.y rfl (Y.assign rfl) ?_
                refine L.nil ?_
                refine E.thenN ?_
                refine W.condT rfl ?_
                refine W.seq ?_
                refine W.region ?_
                refine L.y rfl (Y.move rfl) ?_
                refine L.nil ?_
                refine E.thenN ?_
                refine W.condT rfl ?_
                refine W.region ?_
                refine L.y rfl (Y.fieldP fd111_2 rfl) ?_
                refine L.y rfl (Y.loadP (i := 2) ag24 rfl rfl rfl) ?_
                refine L.y rfl (Y.fieldP fd113_1 rfl) ?_
                refine L.y rfl (Y.loadP (i := 1) ag3 rfl rfl rfl) ?_
                refine L.m (V := fun _ => el gv4 (a1.Who.toNat * 1)) h rfl (Y.indexM (g := I) (l := gl5) Try.underlying24 sz3 rfl rfl (fun w hw => As.at_ (hw.get (i := 4) rfl))) (fun x70 ex70 h => ?_)
                refine L.storeSlM (q := 4) (row := I) (vs := [.int .i64 1]) (j := 0) (u1 := 1) h sz3 rfl rfl rfl rfl rfl (all1 rfl all0) rfl ex70 rfl rfl ?_
                intro l71 el71 h
                refine L.nil ?_
                refine E.blockN ?_
                exact E.joinJ ⟨a0.Lead, gl3, l71, rfl, rfl, h⟩ ⟨rfl, rfl, trivial⟩ (fun _ hw => hw.sel [0, 2, 3, 4] (by decide) rfl)
              ·
                refine L.y rfl (Y.assign rfl) ?_
                refine L.nil ?_
                refine E.thenN ?_
                refine W.condF rfl ?_
                refine W.seq ?_
                refine W.region ?_
                refine L.ite h rfl (Y.eql rfl rfl) (fun c72 h => ?_) (fun c72 h => ?_)
                ·
                  refine L.y rfl (Y.assign rfl) ?_
                  refine L.nil ?_
                  refine E.thenN ?_
                  refine W.condT rfl ?_
                  refine W.seq ?_
                  refine W.region ?_
                  refine L.y rfl (Y.move rfl) ?_
                  refine L.nil ?_
                  refine E.thenN ?_
                  refine W.condT rfl ?_
                  refine W.region ?_
                  refine L.y rfl (Y.fieldP fd111_2 rfl) ?_
                  refine L.y rfl (Y.loadP (i := 2) ag24 rfl rfl rfl) ?_
                  refine L.y rfl (Y.fieldP fd113_1 rfl) ?_
                  refine L.y rfl (Y.loadP (i := 1) ag3 rfl rfl rfl) ?_
                  refine L.m (V := fun _ => el gv4 (a1.Who.toNat * 1)) h rfl (Y.indexM (g := I) (l := gl5) Try.underlying24 sz3 rfl rfl (fun w hw => As.at_ (hw.get (i := 4) rfl))) (fun x73 ex73 h => ?_)
                  refine L.storeSlM (q := 4) (row := I) (vs := [.int .i64 3]) (j := 0) (u1 := 3) h sz3 rfl rfl rfl rfl rfl (all1 rfl all0) rfl ex73 rfl rfl ?_
                  intro l74 el74 h
                  refine L.nil ?_
                  refine E.blockN ?_
                  exact E.joinJ ⟨a0.Lead, gl3, l74, rfl, rfl, h⟩ ⟨rfl, rfl, trivial⟩ (fun _ hw => hw.sel [0, 2, 3, 4] (by decide) rfl)
                ·
                  refine L.y rfl (Y.assign rfl) ?_
                  refine L.nil ?_
                  refine E.thenN ?_
                  refine W.condF rfl ?_
                  refine W.seqJ (fun gs D => ∃ (gb25 : Bool), gs = [(3, pt b2 0), (4, pt b3 0), (8, pt gb1 0), (67, .int .i64 a1.Kind), (84, .bool gb25)] ∧ D = Cls w [] [.obj b3 [.int .i64 0, .slice none 0 0, .slice none 0 0] 111, .obj b2 [.int .i64 a1.Kind, .int .i64 a1.Who, .int .i64 a1.By] 113, .obj gb1 [.int .i64 a0.Lead, gv2, gv4] 111, .sl gv2 3 1 (gl3.map I), .sl gv4 3 1 (gl5.map I)] ∧ m74_pact_Step_K20 a0 gl5 gl3 a1 gb25 = some r) ?_ ?_
                  ·
                    refine W.region ?_
                    refine L.ite h rfl (Y.eql rfl rfl) (fun c137 h => ?_) (fun c137 h => ?_)
                    ·
                      refine L.y rfl (Y.assign rfl) ?_
                      refine L.nil ?_
                      exact E.joinJ ⟨true, rfl, rfl, h⟩ ⟨rfl, rfl, rfl, rfl, rfl, trivial⟩ (fun _ hw => hw)
                    ·
                      refine L.y rfl (Y.assign rfl) ?_
                      refine L.nil ?_
                      exact E.joinJ ⟨false, rfl, rfl, h⟩ ⟨rfl, rfl, rfl, rfl, rfl, trivial⟩ (fun _ hw => hw)
                  ·
                    rintro _ _ ⟨gb25, rfl, rfl, h⟩
                    rw [m74_pact_Step_K20] at h
                    rcases gb25 with _ | _
                    ·
                      replace h := iteF h
                      refine W.condF rfl ?_
                      refine W.seqJ (fun gs D => ∃ (gb26 : Bool), gs = [(3, pt b2 0), (4, pt b3 0), (8, pt gb1 0), (67, .int .i64 a1.Kind), (89, .bool gb26)] ∧ D = Cls w [] [.obj b3 [.int .i64 0, .slice none 0 0, .slice none 0 0] 111, .obj b2 [.int .i64 a1.Kind, .int .i64 a1.Who, .int .i64 a1.By] 113, .obj gb1 [.int .i64 a0.Lead, gv2, gv4] 111, .sl gv2 3 1 (gl3.map I), .sl gv4 3 1 (gl5.map I)] ∧ m74_pact_Step_K21 a0 gl3 gl5 a1 gb26 = some r) ?_ ?_
                      ·
                        refine W.region ?_
                        refine L.ite h rfl (Y.eql rfl rfl) (fun c125 h => ?_) (fun c125 h => ?_)
                        ·
                          refine L.y rfl (Y.assign rfl) ?_
                          refine L.nil ?_
                          exact E.joinJ ⟨true, rfl, rfl, h⟩ ⟨rfl, rfl, rfl, rfl, rfl, trivial⟩ (fun _ hw => hw)
                        ·
                          refine L.y rfl (Y.assign rfl) ?_
                          refine L.nil ?_
                          exact E.joinJ ⟨false, rfl, rfl, h⟩ ⟨rfl, rfl, rfl, rfl, rfl, trivial⟩ (fun _ hw => hw)
                      ·
                        rintro _ _ ⟨gb26, rfl, rfl, h⟩
                        rw [m74_pact_Step_K21] at h
                        rcases gb26 with _ | _
                        ·
                          replace h := iteF h
                          refine W.condF rfl ?_
                          refine W.seq ?_
                          refine W.region ?_
                          refine L.ite h rfl (Y.eql rfl rfl) (fun c75 h => ?_) (fun c75 h => ?_)
                          ·
                            refine L.y rfl (Y.assign rfl) ?_
                            refine L.nil ?_
                            refine E.thenN ?_
                            refine W.condT rfl ?_
                            refine W.seq ?_
                            refine W.region ?_
                            refine L.y rfl (Y.fieldP fd111_0 rfl) ?_
                            refine L.y rfl (Y.loadP (i := 2) ag3 rfl rfl rfl) ?_
                            refine L.ite h rfl (Y.eql rfl rfl) (fun c76 h => ?_) (fun c76 h => ?_)
                            ·
                              refine L.nil ?_
                              refine E.thenN ?_
                              refine W.condT rfl ?_
                              refine W.region ?_
                              refine L.y rfl (Y.fieldP fd111_0 rfl) ?_
                              refine L.store (i := 2) sz3 rfl rfl rfl rfl (by simp [Value.oneCell', Value.cells, st]) rfl (Nat.le_of_ble_eq_true rfl) ?_
                              refine L.nil ?_
                              refine E.blockN ?_
                              exact E.joinJ ⟨2, gl3, gl5, rfl, rfl, h⟩ ⟨rfl, rfl, trivial⟩ (fun _ hw => hw.sel [0, 2, 3, 4] (by decide) rfl)
                            ·
                              refine L.nil ?_
                              refine E.thenN ?_
                              refine W.condF rfl ?_
                              refine W.skip ?_
                              refine E.blockN ?_
                              exact E.joinJ ⟨a0.Lead, gl3, gl5, rfl, rfl, h⟩ ⟨rfl, rfl, trivial⟩ (fun _ hw => hw.sel [0, 2, 3, 4] (by decide) rfl)
                          ·
                            refine L.y rfl (Y.assign rfl) ?_
                            refine L.nil ?_
                            refine E.thenN ?_
                            refine W.condF rfl ?_
                            refine W.seqJ (fun gs D => ∃ (gb27 : Bool), gs = [(3, pt b2 0), (4, pt b3 0), (8, pt gb1 0), (67, .int .i64 a1.Kind), (98, .bool gb27)] ∧ D = Cls w [] [.obj b3 [.int .i64 0, .slice none 0 0, .slice none 0 0] 111, .obj b2 [.int .i64 a1.Kind, .int .i64 a1.Who, .int .i64 a1.By] 113, .obj gb1 [.int .i64 a0.Lead, gv2, gv4] 111, .sl gv2 3 1 (gl3.map I), .sl gv4 3 1 (gl5.map I)] ∧ m74_pact_Step_K22 gl5 a1 a0 gl3 gb27 = some r) ?_ ?_
                            ·
                              refine W.region ?_
                              refine L.ite h rfl (Y.eql rfl rfl) (fun c119 h => ?_) (fun c119 h => ?_)
                              ·
                                refine L.y rfl (Y.assign rfl) ?_
                                refine L.nil ?_
                                exact E.joinJ ⟨true, rfl, rfl, h⟩ ⟨rfl, rfl, rfl, rfl, rfl, trivial⟩ (fun _ hw => hw)
                              ·
                                refine L.y rfl (Y.assign rfl) ?_
                                refine L.nil ?_
                                exact E.joinJ ⟨false, rfl, rfl, h⟩ ⟨rfl, rfl, rfl, rfl, rfl, trivial⟩ (fun _ hw => hw)
                            ·
                              rintro _ _ ⟨gb27, rfl, rfl, h⟩
                              rw [m74_pact_Step_K22] at h
                              rcases gb27 with _ | _
                              ·
                                replace h := iteF h
                                refine W.condF rfl ?_
                                refine W.seq ?_
                                refine W.region ?_
                                refine L.ite h rfl (Y.eql rfl rfl) (fun c77 h => ?_) (fun c77 h => ?_)
                                ·
                                  refine L.y rfl (Y.assign rfl) ?_
                                  refine L.nil ?_
                                  refine E.thenN ?_
                                  refine W.condT rfl ?_
                                  refine W.region ?_
                                  refine L.y rfl (Y.fieldP fd113_1 rfl) ?_
                                  refine L.y rfl (Y.loadP (i := 1) ag3 rfl rfl rfl) ?_
                                  refine L.y rfl (Y.fieldP fd113_2 rfl) ?_
                                  refine L.y rfl (Y.loadP (i := 1) ag3 rfl rfl rfl) ?_
                                  refine L.callJ (fun v D => ∃ (gl28 : (List Int)), v = .tuple #[] ∧ D = Cls w [] [.obj b3 [.int .i64 0, .slice none 0 0, .slice none 0 0] 111, .obj b2 [.int .i64 a1.Kind, .int .i64 a1.Who, .int .i64 a1.By] 113, .obj gb1 [.int .i64 a0.Lead, gv2, gv4] 111, .sl gv2 3 1 (gl3.map I), .sl gv4 3 1 (gl28.map I)] ∧ m74_pact_Step_K23 a0 gl3 gl28 = some r) rfl en132 rfl Try.func132 rfl rfl rfl ?_ ?_
                                  ·
                                    refine W.seqJ (fun gs D => gs = [(0, pt gb1 0), (1, .int .i64 a1.Who), (2, .int .i64 a1.By)] ∧ D = Cls w [] [.obj b3 [.int .i64 0, .slice none 0 0, .slice none 0 0] 111, .obj b2 [.int .i64 a1.Kind, .int .i64 a1.Who, .int .i64 a1.By] 113, .obj gb1 [.int .i64 a0.Lead, gv2, gv4] 111, .sl gv2 3 1 (gl3.map I), .sl gv4 3 1 (gl5.map I)] ∧ m74_pact_Step_K24 gl5 a1 a0 gl3 = some r) ?_ ?_
                                    ·
                                      refine W.seq ?_
                                      refine W.region ?_
                                      refine L.y rfl (Y.move rfl) ?_
                                      refine L.y rfl (Y.nilCheck rfl) ?_
                                      refine L.y rfl (Y.fieldP fd111_2 rfl) ?_
                                      refine L.y rfl (Y.loadP (i := 2) ag24 rfl rfl rfl) ?_
                                      refine L.y rfl (Y.move rfl) ?_
                                      refine L.m (V := fun _ => el gv4 (a1.Who.toNat * 1)) h rfl (Y.indexM (g := I) (l := gl5) Try.underlying24 sz3 rfl rfl (fun w hw => As.at_ (hw.get (i := 4) rfl))) (fun x106 ex106 h => ?_)
                                      refine L.y rfl (Y.loadE1 (u := .int .i64 x106) ag3 rfl (fun w hw => As.at_ (hw.get (i := 4) rfl)) (idx_map ex106)) ?_
                                      refine L.ite h rfl (Y.neq rfl rfl) (fun c107 h => ?_) (fun c107 h => ?_)
                                      ·
                                        refine L.y rfl (Y.move rfl) ?_
                                        refine L.pass rfl rfl (by nofun) ?_
                                        refine L.pass rfl rfl (by nofun) ?_
                                        refine L.pass rfl rfl (by nofun) ?_
                                        refine L.y rfl (Y.pickT rfl rfl) ?_
                                        refine L.nil ?_
                                        refine E.thenN ?_
                                        refine W.condT rfl ?_
                                        refine W.ret ?_
                                        refine E.KSR ?_
                                        refine E.ret0 rfl (fun w1 hw => ?_)
                                        exact ⟨_, _, rfl, ⟨gl5, rfl, rfl, h⟩, (fun _ hw => hw) _ hw⟩
                                      ·
                                        refine L.y rfl (Y.move rfl) ?_
                                        refine L.take rfl ?_
                                        refine L.y rfl (Y.move rfl) ?_
                                        refine L.take rfl ?_
                                        refine L.y rfl (Y.move rfl) ?_
                                        refine L.take rfl ?_
                                        refine L.ite h rfl (Y.eql rfl rfl) (fun c108 h => ?_) (fun c108 h => ?_)
                                        ·
                                          refine L.y rfl (Y.pickF rfl rfl) ?_
                                          refine L.nil ?_
                                          refine E.thenN ?_
                                          refine W.condT rfl ?_
                                          refine W.ret ?_
                                          refine E.KSR ?_
                                          refine E.ret0 rfl (fun w1 hw => ?_)
                                          exact ⟨_, _, rfl, ⟨gl5, rfl, rfl, h⟩, (fun _ hw => hw) _ hw⟩
                                        ·
                                          refine L.y rfl (Y.pickF rfl rfl) ?_
                                          refine L.nil ?_
                                          refine E.thenN ?_
                                          refine W.condF rfl ?_
                                          refine W.skip ?_
                                          exact E.joinJ ⟨rfl, rfl, h⟩ ⟨rfl, rfl, rfl, trivial⟩ (fun _ hw => hw)
                                    ·
                                      rintro _ _ ⟨rfl, rfl, h⟩
                                      rw [m74_pact_Step_K24] at h
                                      refine W.seq ?_
                                      refine W.region ?_
                                      refine L.y rfl (Y.move rfl) ?_
                                      refine L.y rfl (Y.nilCheck rfl) ?_
                                      refine L.y rfl (Y.fieldP fd111_2 rfl) ?_
                                      refine L.y rfl (Y.loadP (i := 2) ag24 rfl rfl rfl) ?_
                                      refine L.y rfl (Y.move rfl) ?_
                                      refine L.m (V := fun _ => el gv4 (a1.By.toNat * 1)) h rfl (Y.indexM (g := I) (l := gl5) Try.underlying24 sz3 rfl rfl (fun w hw => As.at_ (hw.get (i := 4) rfl))) (fun x78 ex78 h => ?_)
                                      refine L.y rfl (Y.loadE1 (u := .int .i64 x78) ag3 rfl (fun w hw => As.at_ (hw.get (i := 4) rfl)) (idx_map ex78)) ?_
                                      refine L.nil ?_
                                      refine E.thenN ?_
                                      refine W.block ?_
                                      refine W.seqJ (fun gs D => ∃ (gb29 : Bool), gs = [(0, pt gb1 0), (1, .int .i64 a1.Who), (2, .int .i64 a1.By), (25, .int .i64 x78), (26, .bool gb29)] ∧ D = Cls w [] [.obj b3 [.int .i64 0, .slice none 0 0, .slice none 0 0] 111, .obj b2 [.int .i64 a1.Kind, .int .i64 a1.Who, .int .i64 a1.By] 113, .obj gb1 [.int .i64 a0.Lead, gv2, gv4] 111, .sl gv2 3 1 (gl3.map I), .sl gv4 3 1 (gl5.map I)] ∧ m74_pact_Step_K25 gl5 a1 a0 gl3 x78 gb29 = some r) ?_ ?_
                                      ·
                                        refine W.region ?_
                                        refine L.ite h rfl (Y.eql rfl rfl) (fun c105 h => ?_) (fun c105 h => ?_)
                                        ·
                                          refine L.y rfl (Y.assign rfl) ?_
                                          refine L.nil ?_
                                          exact E.joinJ ⟨true, rfl, rfl, h⟩ ⟨rfl, rfl, rfl, rfl, rfl, trivial⟩ (fun _ hw => hw)
                                        ·
                                          refine L.y rfl (Y.assign rfl) ?_
                                          refine L.nil ?_
                                          exact E.joinJ ⟨false, rfl, rfl, h⟩ ⟨rfl, rfl, rfl, rfl, rfl, trivial⟩ (fun _ hw => hw)
                                      ·
                                        rintro _ _ ⟨gb29, rfl, rfl, h⟩
                                        rw [m74_pact_Step_K25] at h
                                        rcases gb29 with _ | _
                                        ·
                                          replace h := iteF h
                                          refine W.condF rfl ?_
                                          refine W.seqJ (fun gs D => ∃ (gb30 : Bool), gs = [(0, pt gb1 0), (1, .int .i64 a1.Who), (2, .int .i64 a1.By), (40, .bool gb30)] ∧ D = Cls w [] [.obj b3 [.int .i64 0, .slice none 0 0, .slice none 0 0] 111, .obj b2 [.int .i64 a1.Kind, .int .i64 a1.Who, .int .i64 a1.By] 113, .obj gb1 [.int .i64 a0.Lead, gv2, gv4] 111, .sl gv2 3 1 (gl3.map I), .sl gv4 3 1 (gl5.map I)] ∧ m74_pact_Step_K26 gl5 a1 a0 gl3 gb30 = some r) ?_ ?_
                                          ·
                                            refine W.seq ?_
                                            refine W.region ?_
                                            refine L.ite h rfl (Y.eql rfl rfl) (fun c93 h => ?_) (fun c93 h => ?_)
                                            ·
                                              refine L.y rfl (Y.assign rfl) ?_
                                              refine L.nil ?_
                                              refine E.thenN ?_
                                              refine W.condT rfl ?_
                                              refine W.skip ?_
                                              exact E.joinJ ⟨true, rfl, rfl, h⟩ ⟨rfl, rfl, rfl, rfl, trivial⟩ (fun _ hw => hw)
                                            ·
                                              refine L.y rfl (Y.assign rfl) ?_
                                              refine L.nil ?_
                                              refine E.thenN ?_
                                              refine W.condF rfl ?_
                                              refine W.region ?_
                                              refine L.ite h rfl (Y.eql rfl rfl) (fun c94 h => ?_) (fun c94 h => ?_)
                                              ·
                                                refine L.y rfl (Y.assign rfl) ?_
                                                refine L.nil ?_
                                                exact E.joinJ ⟨true, rfl, rfl, h⟩ ⟨rfl, rfl, rfl, rfl, trivial⟩ (fun _ hw => hw)
                                              ·
                                                refine L.y rfl (Y.assign rfl) ?_
                                                refine L.nil ?_
                                                exact E.joinJ ⟨false, rfl, rfl, h⟩ ⟨rfl, rfl, rfl, rfl, trivial⟩ (fun _ hw => hw)
                                          ·
                                            rintro _ _ ⟨gb30, rfl, rfl, h⟩
                                            rw [m74_pact_Step_K26] at h
                                            rcases gb30 with _ | _
                                            ·
                                              replace h := iteF h
                                              refine W.condF rfl ?_
                                              refine W.skip ?_
                                              refine E.blockN ?_
                                              refine E.end0 rfl (fun w1 hw => ?_)
                                              exact ⟨_, _, rfl, ⟨gl5, rfl, rfl, h⟩, (fun _ hw => hw) _ hw⟩
                                            ·
                                              replace h := iteT h
                                              refine W.condT rfl ?_
                                              refine W.drawn (k := 14) (D := Cls w [] [.obj b3 [.int .i64 0, .slice none 0 0, .slice none 0 0] 111, .obj b2 [.int .i64 a1.Kind, .int .i64 a1.Who, .int .i64 a1.By] 113, .obj gb1 [.int .i64 a0.Lead, gv2, gv4] 111, .sl gv2 3 1 (gl3.map I)]) rfl mixed (fun _ hw => hw.drew) (fun _ hw => hw.sel [0, 1, 2, 3] (by decide) rfl) ?_
                                              refine V.y (i := 0) (Nx.of (by kernel_rfl) rfl) rfl rfl rfl (Y.move rfl) ?_
                                              refine V.y (i := 4) (Nx.of (by kernel_rfl) rfl) rfl rfl rfl (Y.move rfl) ?_
                                              refine V.y (i := 5) (Nx.of (by kernel_rfl) rfl) rfl rfl rfl (Y.move rfl) ?_
                                              refine V.y (i := 9) (Nx.of (by kernel_rfl) rfl) rfl rfl rfl (Y.move rfl) ?_
                                              refine V.eff2 (i1 := 1) (i2 := 6) (by kernel_rfl) rfl rfl ?_ ?_
                                              ·
                                                refine L.y rfl (Y.nilCheck rfl) ?_
                                                refine L.nil ?_
                                                refine E.toV (D' := Cls w [] [.obj b3 [.int .i64 0, .slice none 0 0, .slice none 0 0] 111, .obj b2 [.int .i64 a1.Kind, .int .i64 a1.Who, .int .i64 a1.By] 113, .obj gb1 [.int .i64 a0.Lead, gv2, gv4] 111, .sl gv2 3 1 (gl3.map I)]) (fun _ hw => hw) (fun _ hw => hw.sel [0, 1, 2, 3] (by decide) rfl) ?_
                                                refine V.y (i := 2) (Nx.of (by kernel_rfl) rfl) rfl rfl rfl (Y.fieldP fd111_2 rfl) ?_
                                                refine V.y (i := 3) (Nx.of (by kernel_rfl) rfl) rfl rfl rfl (Y.loadP (i := 2) ag24 rfl rfl rfl) ?_
                                                refine V.eff (i := 6) (by kernel_rfl) rfl ?_
                                                refine L.y rfl (Y.nilCheck rfl) ?_
                                                refine L.nil ?_
                                                refine E.toV (D' := Cls w [] [.obj b3 [.int .i64 0, .slice none 0 0, .slice none 0 0] 111, .obj b2 [.int .i64 a1.Kind, .int .i64 a1.Who, .int .i64 a1.By] 113, .obj gb1 [.int .i64 a0.Lead, gv2, gv4] 111, .sl gv2 3 1 (gl3.map I)]) (fun _ hw => hw) (fun _ hw => hw.sel [0, 1, 2, 3] (by decide) rfl) ?_
                                                refine V.y (i := 7) (Nx.of (by kernel_rfl) rfl) rfl rfl rfl (Y.fieldP fd111_2 rfl) ?_
                                                refine V.y (i := 8) (Nx.of (by kernel_rfl) rfl) rfl rfl rfl (Y.loadP (i := 2) ag24 rfl rfl rfl) ?_
                                                refine V.eff (i := 10) (by kernel_rfl) rfl ?_
                                                refine L.m (V := fun _ => el gv4 (a1.By.toNat * 1)) h rfl (Y.indexM (g := I) (l := gl5) Try.underlying24 sz3 rfl rfl (fun w hw => As.at_ (hw.get (i := 4) rfl))) (fun x82 ex82 h => ?_)
                                                refine L.nil ?_
                                                refine E.toV (D' := Cls w [] [.obj b3 [.int .i64 0, .slice none 0 0, .slice none 0 0] 111, .obj b2 [.int .i64 a1.Kind, .int .i64 a1.Who, .int .i64 a1.By] 113, .obj gb1 [.int .i64 a0.Lead, gv2, gv4] 111, .sl gv2 3 1 (gl3.map I)]) (fun _ hw => hw) (fun _ hw => hw.sel [0, 1, 2, 3] (by decide) rfl) ?_
                                                refine V.eff (i := 11) (by kernel_rfl) rfl ?_
                                                refine L.y rfl (Y.loadE1 (u := .int .i64 x82) ag3 rfl (fun w hw => As.at_ (hw.get (i := 4) rfl)) (idx_map ex82)) ?_
                                                refine L.nil ?_
                                                refine E.toV (D' := Cls w [] [.obj b3 [.int .i64 0, .slice none 0 0, .slice none 0 0] 111, .obj b2 [.int .i64 a1.Kind, .int .i64 a1.Who, .int .i64 a1.By] 113, .obj gb1 [.int .i64 a0.Lead, gv2, gv4] 111, .sl gv2 3 1 (gl3.map I)]) (fun _ hw => hw) (fun _ hw => hw.sel [0, 1, 2, 3] (by decide) rfl) ?_
                                                refine V.eff (i := 12) (by kernel_rfl) rfl ?_
                                                refine L.m (V := fun _ => el gv4 (a1.Who.toNat * 1)) h rfl (Y.indexM (g := I) (l := gl5) Try.underlying24 sz3 rfl rfl (fun w hw => As.at_ (hw.get (i := 4) rfl))) (fun x83 ex83 h => ?_)
                                                refine L.nil ?_
                                                refine E.toV (D' := Cls w [] [.obj b3 [.int .i64 0, .slice none 0 0, .slice none 0 0] 111, .obj b2 [.int .i64 a1.Kind, .int .i64 a1.Who, .int .i64 a1.By] 113, .obj gb1 [.int .i64 a0.Lead, gv2, gv4] 111, .sl gv2 3 1 (gl3.map I)]) (fun _ hw => hw) (fun _ hw => hw.sel [0, 1, 2, 3] (by decide) rfl) ?_
                                                refine V.eff (i := 13) (by kernel_rfl) rfl ?_
                                                refine L.storeSlM (q := 4) (row := I) (vs := [.int .i64 x82]) (j := 0) (u1 := x82) h sz3 rfl rfl rfl rfl rfl (all1 rfl all0) rfl ex83 rfl rfl ?_
                                                intro l84 el84 h
                                                refine L.nil ?_
                                                refine E.toV (D' := Cls w [] [.obj b3 [.int .i64 0, .slice none 0 0, .slice none 0 0] 111, .obj b2 [.int .i64 a1.Kind, .int .i64 a1.Who, .int .i64 a1.By] 113, .obj gb1 [.int .i64 a0.Lead, gv2, gv4] 111, .sl gv2 3 1 (gl3.map I)]) (fun _ hw => hw) (fun _ hw => hw.sel [0, 1, 2, 3] (by decide) rfl) ?_
                                                refine V.done (by kernel_rfl) ?_
                                                refine E.blockN ?_
                                                refine E.end0 rfl (fun w1 hw => ?_)
                                                exact ⟨_, _, rfl, ⟨l84, rfl, rfl, h⟩, (fun _ hw => hw) _ hw⟩
                                              ·
                                                refine L.y rfl (Y.nilCheck rfl) ?_
                                                refine L.nil ?_
                                                refine E.toV (D' := Cls w [] [.obj b3 [.int .i64 0, .slice none 0 0, .slice none 0 0] 111, .obj b2 [.int .i64 a1.Kind, .int .i64 a1.Who, .int .i64 a1.By] 113, .obj gb1 [.int .i64 a0.Lead, gv2, gv4] 111, .sl gv2 3 1 (gl3.map I)]) (fun _ hw => hw) (fun _ hw => hw.sel [0, 1, 2, 3] (by decide) rfl) ?_
                                                refine V.y (i := 7) (Nx.of (by kernel_rfl) rfl) rfl rfl rfl (Y.fieldP fd111_2 rfl) ?_
                                                refine V.y (i := 8) (Nx.of (by kernel_rfl) rfl) rfl rfl rfl (Y.loadP (i := 2) ag24 rfl rfl rfl) ?_
                                                refine V.eff2 (i1 := 1) (i2 := 10) (by kernel_rfl) rfl rfl ?_ ?_
                                                ·
                                                  refine L.y rfl (Y.nilCheck rfl) ?_
                                                  refine L.nil ?_
                                                  refine E.toV (D' := Cls w [] [.obj b3 [.int .i64 0, .slice none 0 0, .slice none 0 0] 111, .obj b2 [.int .i64 a1.Kind, .int .i64 a1.Who, .int .i64 a1.By] 113, .obj gb1 [.int .i64 a0.Lead, gv2, gv4] 111, .sl gv2 3 1 (gl3.map I)]) (fun _ hw => hw) (fun _ hw => hw.sel [0, 1, 2, 3] (by decide) rfl) ?_
                                                  refine V.y (i := 2) (Nx.of (by kernel_rfl) rfl) rfl rfl rfl (Y.fieldP fd111_2 rfl) ?_
                                                  refine V.y (i := 3) (Nx.of (by kernel_rfl) rfl) rfl rfl rfl (Y.loadP (i := 2) ag24 rfl rfl rfl) ?_
                                                  refine V.eff (i := 10) (by kernel_rfl) rfl ?_
                                                  refine L.m (V := fun _ => el gv4 (a1.By.toNat * 1)) h rfl (Y.indexM (g := I) (l := gl5) Try.underlying24 sz3 rfl rfl (fun w hw => As.at_ (hw.get (i := 4) rfl))) (fun x85 ex85 h => ?_)
                                                  refine L.nil ?_
                                                  refine E.toV (D' := Cls w [] [.obj b3 [.int .i64 0, .slice none 0 0, .slice none 0 0] 111, .obj b2 [.int .i64 a1.Kind, .int .i64 a1.Who, .int .i64 a1.By] 113, .obj gb1 [.int .i64 a0.Lead, gv2, gv4] 111, .sl gv2 3 1 (gl3.map I)]) (fun _ hw => hw) (fun _ hw => hw.sel [0, 1, 2, 3] (by decide) rfl) ?_
                                                  refine V.eff (i := 11) (by kernel_rfl) rfl ?_
                                                  refine L.y rfl (Y.loadE1 (u := .int .i64 x85) ag3 rfl (fun w hw => As.at_ (hw.get (i := 4) rfl)) (idx_map ex85)) ?_
                                                  refine L.nil ?_
                                                  refine E.toV (D' := Cls w [] [.obj b3 [.int .i64 0, .slice none 0 0, .slice none 0 0] 111, .obj b2 [.int .i64 a1.Kind, .int .i64 a1.Who, .int .i64 a1.By] 113, .obj gb1 [.int .i64 a0.Lead, gv2, gv4] 111, .sl gv2 3 1 (gl3.map I)]) (fun _ hw => hw) (fun _ hw => hw.sel [0, 1, 2, 3] (by decide) rfl) ?_
                                                  refine V.eff (i := 12) (by kernel_rfl) rfl ?_
                                                  refine L.m (V := fun _ => el gv4 (a1.Who.toNat * 1)) h rfl (Y.indexM (g := I) (l := gl5) Try.underlying24 sz3 rfl rfl (fun w hw => As.at_ (hw.get (i := 4) rfl))) (fun x86 ex86 h => ?_)
                                                  refine L.nil ?_
                                                  refine E.toV (D' := Cls w [] [.obj b3 [.int .i64 0, .slice none 0 0, .slice none 0 0] 111, .obj b2 [.int .i64 a1.Kind, .int .i64 a1.Who, .int .i64 a1.By] 113, .obj gb1 [.int .i64 a0.Lead, gv2, gv4] 111, .sl gv2 3 1 (gl3.map I)]) (fun _ hw => hw) (fun _ hw => hw.sel [0, 1, 2, 3] (by decide) rfl) ?_
                                                  refine V.eff (i := 13) (by kernel_rfl) rfl ?_
                                                  refine L.storeSlM (q := 4) (row := I) (vs := [.int .i64 x85]) (j := 0) (u1 := x85) h sz3 rfl rfl rfl rfl rfl (all1 rfl all0) rfl ex86 rfl rfl ?_
                                                  intro l87 el87 h
                                                  refine L.nil ?_
                                                  refine E.toV (D' := Cls w [] [.obj b3 [.int .i64 0, .slice none 0 0, .slice none 0 0] 111, .obj b2 [.int .i64 a1.Kind, .int .i64 a1.Who, .int .i64 a1.By] 113, .obj gb1 [.int .i64 a0.Lead, gv2, gv4] 111, .sl gv2 3 1 (gl3.map I)]) (fun _ hw => hw) (fun _ hw => hw.sel [0, 1, 2, 3] (by decide) rfl) ?_
                                                  refine V.done (by kernel_rfl) ?_
                                                  refine E.blockN ?_
                                                  refine E.end0 rfl (fun w1 hw => ?_)
                                                  exact ⟨_, _, rfl, ⟨l87, rfl, rfl, h⟩, (fun _ hw => hw) _ hw⟩
                                                ·
                                                  refine L.m (V := fun _ => el gv4 (a1.By.toNat * 1)) h rfl (Y.indexM (g := I) (l := gl5) Try.underlying24 sz3 rfl rfl (fun w hw => As.at_ (hw.get (i := 4) rfl))) (fun x88 ex88 h => ?_)
                                                  refine L.nil ?_
                                                  refine E.toV (D' := Cls w [] [.obj b3 [.int .i64 0, .slice none 0 0, .slice none 0 0] 111, .obj b2 [.int .i64 a1.Kind, .int .i64 a1.Who, .int .i64 a1.By] 113, .obj gb1 [.int .i64 a0.Lead, gv2, gv4] 111, .sl gv2 3 1 (gl3.map I)]) (fun _ hw => hw) (fun _ hw => hw.sel [0, 1, 2, 3] (by decide) rfl) ?_
                                                  refine V.eff2 (i1 := 1) (i2 := 11) (by kernel_rfl) rfl rfl ?_ ?_
                                                  ·
                                                    refine L.y rfl (Y.nilCheck rfl) ?_
                                                    refine L.nil ?_
                                                    refine E.toV (D' := Cls w [] [.obj b3 [.int .i64 0, .slice none 0 0, .slice none 0 0] 111, .obj b2 [.int .i64 a1.Kind, .int .i64 a1.Who, .int .i64 a1.By] 113, .obj gb1 [.int .i64 a0.Lead, gv2, gv4] 111, .sl gv2 3 1 (gl3.map I)]) (fun _ hw => hw) (fun _ hw => hw.sel [0, 1, 2, 3] (by decide) rfl) ?_
                                                    refine V.y (i := 2) (Nx.of (by kernel_rfl) rfl) rfl rfl rfl (Y.fieldP fd111_2 rfl) ?_
                                                    refine V.y (i := 3) (Nx.of (by kernel_rfl) rfl) rfl rfl rfl (Y.loadP (i := 2) ag24 rfl rfl rfl) ?_
                                                    refine V.eff (i := 11) (by kernel_rfl) rfl ?_
                                                    refine L.y rfl (Y.loadE1 (u := .int .i64 x88) ag3 rfl (fun w hw => As.at_ (hw.get (i := 4) rfl)) (idx_map ex88)) ?_
                                                    refine L.nil ?_
                                                    refine E.toV (D' := Cls w [] [.obj b3 [.int .i64 0, .slice none 0 0, .slice none 0 0] 111, .obj b2 [.int .i64 a1.Kind, .int .i64 a1.Who, .int .i64 a1.By] 113, .obj gb1 [.int .i64 a0.Lead, gv2, gv4] 111, .sl gv2 3 1 (gl3.map I)]) (fun _ hw => hw) (fun _ hw => hw.sel [0, 1, 2, 3] (by decide) rfl) ?_
                                                    refine V.eff (i := 12) (by kernel_rfl) rfl ?_
                                                    refine L.m (V := fun _ => el gv4 (a1.Who.toNat * 1)) h rfl (Y.indexM (g := I) (l := gl5) Try.underlying24 sz3 rfl rfl (fun w hw => As.at_ (hw.get (i := 4) rfl))) (fun x89 ex89 h => ?_)
                                                    refine L.nil ?_
                                                    refine E.toV (D' := Cls w [] [.obj b3 [.int .i64 0, .slice none 0 0, .slice none 0 0] 111, .obj b2 [.int .i64 a1.Kind, .int .i64 a1.Who, .int .i64 a1.By] 113, .obj gb1 [.int .i64 a0.Lead, gv2, gv4] 111, .sl gv2 3 1 (gl3.map I)]) (fun _ hw => hw) (fun _ hw => hw.sel [0, 1, 2, 3] (by decide) rfl) ?_
                                                    refine V.eff (i := 13) (by kernel_rfl) rfl ?_
                                                    refine L.storeSlM (q := 4) (row := I) (vs := [.int .i64 x88]) (j := 0) (u1 := x88) h sz3 rfl rfl rfl rfl rfl (all1 rfl all0) rfl ex89 rfl rfl ?_
                                                    intro l90 el90 h
                                                    refine L.nil ?_
                                                    refine E.toV (D' := Cls w [] [.obj b3 [.int .i64 0, .slice none 0 0, .slice none 0 0] 111, .obj b2 [.int .i64 a1.Kind, .int .i64 a1.Who, .int .i64 a1.By] 113, .obj gb1 [.int .i64 a0.Lead, gv2, gv4] 111, .sl gv2 3 1 (gl3.map I)]) (fun _ hw => hw) (fun _ hw => hw.sel [0, 1, 2, 3] (by decide) rfl) ?_
                                                    refine V.done (by kernel_rfl) ?_
                                                    refine E.blockN ?_
                                                    refine E.end0 rfl (fun w1 hw => ?_)
                                                    exact ⟨_, _, rfl, ⟨l90, rfl, rfl, h⟩, (fun _ hw => hw) _ hw⟩
                                                  ·
                                                    refine L.y rfl (Y.loadE1 (u := .int .i64 x88) ag3 rfl (fun w hw => As.at_ (hw.get (i := 4) rfl)) (idx_map ex88)) ?_
                                                    refine L.nil ?_
                                                    refine E.toV (D' := Cls w [] [.obj b3 [.int .i64 0, .slice none 0 0, .slice none 0 0] 111, .obj b2 [.int .i64 a1.Kind, .int .i64 a1.Who, .int .i64 a1.By] 113, .obj gb1 [.int .i64 a0.Lead, gv2, gv4] 111, .sl gv2 3 1 (gl3.map I)]) (fun _ hw => hw) (fun _ hw => hw.sel [0, 1, 2, 3] (by decide) rfl) ?_
                                                    refine V.eff (i := 1) (by kernel_rfl) rfl ?_
                                                    refine L.y rfl (Y.nilCheck rfl) ?_
                                                    refine L.nil ?_
                                                    refine E.toV (D' := Cls w [] [.obj b3 [.int .i64 0, .slice none 0 0, .slice none 0 0] 111, .obj b2 [.int .i64 a1.Kind, .int .i64 a1.Who, .int .i64 a1.By] 113, .obj gb1 [.int .i64 a0.Lead, gv2, gv4] 111, .sl gv2 3 1 (gl3.map I)]) (fun _ hw => hw) (fun _ hw => hw.sel [0, 1, 2, 3] (by decide) rfl) ?_
                                                    refine V.y (i := 2) (Nx.of (by kernel_rfl) rfl) rfl rfl rfl (Y.fieldP fd111_2 rfl) ?_
                                                    refine V.y (i := 3) (Nx.of (by kernel_rfl) rfl) rfl rfl rfl (Y.loadP (i := 2) ag24 rfl rfl rfl) ?_
                                                    refine V.eff (i := 12) (by kernel_rfl) rfl ?_
                                                    refine L.m (V := fun _ => el gv4 (a1.Who.toNat * 1)) h rfl (Y.indexM (g := I) (l := gl5) Try.underlying24 sz3 rfl rfl (fun w hw => As.at_ (hw.get (i := 4) rfl))) (fun x91 ex91 h => ?_)
                                                    refine L.nil ?_
                                                    refine E.toV (D' := Cls w [] [.obj b3 [.int .i64 0, .slice none 0 0, .slice none 0 0] 111, .obj b2 [.int .i64 a1.Kind, .int .i64 a1.Who, .int .i64 a1.By] 113, .obj gb1 [.int .i64 a0.Lead, gv2, gv4] 111, .sl gv2 3 1 (gl3.map I)]) (fun _ hw => hw) (fun _ hw => hw.sel [0, 1, 2, 3] (by decide) rfl) ?_
                                                    refine V.eff (i := 13) (by kernel_rfl) rfl ?_
                                                    refine L.storeSlM (q := 4) (row := I) (vs := [.int .i64 x88]) (j := 0) (u1 := x88) h sz3 rfl rfl rfl rfl rfl (all1 rfl all0) rfl ex91 rfl rfl ?_
                                                    intro l92 el92 h
                                                    refine L.nil ?_
                                                    refine E.toV (D' := Cls w [] [.obj b3 [.int .i64 0, .slice none 0 0, .slice none 0 0] 111, .obj b2 [.int .i64 a1.Kind, .int .i64 a1.Who, .int .i64 a1.By] 113, .obj gb1 [.int .i64 a0.Lead, gv2, gv4] 111, .sl gv2 3 1 (gl3.map I)]) (fun _ hw => hw) (fun _ hw => hw.sel [0, 1, 2, 3] (by decide) rfl) ?_
                                                    refine V.done (by kernel_rfl) ?_
                                                    refine E.blockN ?_
                                                    refine E.end0 rfl (fun w1 hw => ?_)
                                                    exact ⟨_, _, rfl, ⟨l92, rfl, rfl, h⟩, (fun _ hw => hw) _ hw⟩
                                        ·
                                          replace h := iteT h
                                          refine W.condT rfl ?_
                                          refine W.drawn (k := 14) (D := Cls w [] [.obj b3 [.int .i64 0, .slice none 0 0, .slice none 0 0] 111, .obj b2 [.int .i64 a1.Kind, .int .i64 a1.Who, .int .i64 a1.By] 113, .obj gb1 [.int .i64 a0.Lead, gv2, gv4] 111, .sl gv2 3 1 (gl3.map I)]) rfl mixed (fun _ hw => hw.drew) (fun _ hw => hw.sel [0, 1, 2, 3] (by decide) rfl) ?_
                                          refine V.y (i := 0) (Nx.of (by kernel_rfl) rfl) rfl rfl rfl (Y.move rfl) ?_
                                          refine V.y (i := 4) (Nx.of (by kernel_rfl) rfl) rfl rfl rfl (Y.move rfl) ?_
                                          refine V.y (i := 5) (Nx.of (by kernel_rfl) rfl) rfl rfl rfl (Y.move rfl) ?_
                                          refine V.y (i := 9) (Nx.of (by kernel_rfl) rfl) rfl rfl rfl (Y.move rfl) ?_
                                          refine V.eff2 (i1 := 1) (i2 := 6) (by kernel_rfl) rfl rfl ?_ ?_
                                          ·
                                            refine L.y rfl (Y.nilCheck rfl) ?_
                                            refine L.nil ?_
                                            refine E.toV (D' := Cls w [] [.obj b3 [.int .i64 0, .slice none 0 0, .slice none 0 0] 111, .obj b2 [.int .i64 a1.Kind, .int .i64 a1.Who, .int .i64 a1.By] 113, .obj gb1 [.int .i64 a0.Lead, gv2, gv4] 111, .sl gv2 3 1 (gl3.map I)]) (fun _ hw => hw) (fun _ hw => hw.sel [0, 1, 2, 3] (by decide) rfl) ?_
                                            refine V.y (i := 2) (Nx.of (by kernel_rfl) rfl) rfl rfl rfl (Y.fieldP fd111_2 rfl) ?_
                                            refine V.y (i := 3) (Nx.of (by kernel_rfl) rfl) rfl rfl rfl (Y.loadP (i := 2) ag24 rfl rfl rfl) ?_
                                            refine V.eff (i := 6) (by kernel_rfl) rfl ?_
                                            refine L.y rfl (Y.nilCheck rfl) ?_
                                            refine L.nil ?_
                                            refine E.toV (D' := Cls w [] [.obj b3 [.int .i64 0, .slice none 0 0, .slice none 0 0] 111, .obj b2 [.int .i64 a1.Kind, .int .i64 a1.Who, .int .i64 a1.By] 113, .obj gb1 [.int .i64 a0.Lead, gv2, gv4] 111, .sl gv2 3 1 (gl3.map I)]) (fun _ hw => hw) (fun _ hw => hw.sel [0, 1, 2, 3] (by decide) rfl) ?_
                                            refine V.y (i := 7) (Nx.of (by kernel_rfl) rfl) rfl rfl rfl (Y.fieldP fd111_2 rfl) ?_
                                            refine V.y (i := 8) (Nx.of (by kernel_rfl) rfl) rfl rfl rfl (Y.loadP (i := 2) ag24 rfl rfl rfl) ?_
                                            refine V.eff (i := 10) (by kernel_rfl) rfl ?_
                                            refine L.m (V := fun _ => el gv4 (a1.By.toNat * 1)) h rfl (Y.indexM (g := I) (l := gl5) Try.underlying24 sz3 rfl rfl (fun w hw => As.at_ (hw.get (i := 4) rfl))) (fun x97 ex97 h => ?_)
                                            refine L.nil ?_
                                            refine E.toV (D' := Cls w [] [.obj b3 [.int .i64 0, .slice none 0 0, .slice none 0 0] 111, .obj b2 [.int .i64 a1.Kind, .int .i64 a1.Who, .int .i64 a1.By] 113, .obj gb1 [.int .i64 a0.Lead, gv2, gv4] 111, .sl gv2 3 1 (gl3.map I)]) (fun _ hw => hw) (fun _ hw => hw.sel [0, 1, 2, 3] (by decide) rfl) ?_
                                            refine V.eff (i := 11) (by kernel_rfl) rfl ?_
                                            refine L.storeSlM (q := 4) (row := I) (vs := [.int .i64 3]) (j := 0) (u1 := 3) h sz3 rfl rfl rfl rfl rfl (all1 rfl all0) rfl ex97 rfl rfl ?_
                                            intro l98 el98 h
                                            refine L.nil ?_
                                            refine E.toV (D' := Cls w [] [.obj b3 [.int .i64 0, .slice none 0 0, .slice none 0 0] 111, .obj b2 [.int .i64 a1.Kind, .int .i64 a1.Who, .int .i64 a1.By] 113, .obj gb1 [.int .i64 a0.Lead, gv2, gv4] 111, .sl gv2 3 1 (gl3.map I)]) (fun _ hw => hw) (fun _ hw => hw.sel [0, 1, 2, 3] (by decide) rfl) ?_
                                            refine V.eff (i := 12) (by kernel_rfl) rfl ?_
                                            refine L.m (V := fun _ => el gv4 (a1.Who.toNat * 1)) h rfl (Y.indexM (g := I) (l := l98) Try.underlying24 sz3 rfl rfl (fun w hw => As.at_ (hw.get (i := 4) rfl))) (fun x99 ex99 h => ?_)
                                            refine L.nil ?_
                                            refine E.toV (D' := Cls w [] [.obj b3 [.int .i64 0, .slice none 0 0, .slice none 0 0] 111, .obj b2 [.int .i64 a1.Kind, .int .i64 a1.Who, .int .i64 a1.By] 113, .obj gb1 [.int .i64 a0.Lead, gv2, gv4] 111, .sl gv2 3 1 (gl3.map I)]) (fun _ hw => hw) (fun _ hw => hw.sel [0, 1, 2, 3] (by decide) rfl) ?_
                                            refine V.eff (i := 13) (by kernel_rfl) rfl ?_
                                            refine L.storeSlM (q := 4) (row := I) (vs := [.int .i64 3]) (j := 0) (u1 := 3) h sz3 rfl rfl rfl rfl rfl (all1 rfl all0) rfl ex99 rfl rfl ?_
                                            intro l100 el100 h
                                            refine L.nil ?_
                                            refine E.toV (D' := Cls w [] [.obj b3 [.int .i64 0, .slice none 0 0, .slice none 0 0] 111, .obj b2 [.int .i64 a1.Kind, .int .i64 a1.Who, .int .i64 a1.By] 113, .obj gb1 [.int .i64 a0.Lead, gv2, gv4] 111, .sl gv2 3 1 (gl3.map I)]) (fun _ hw => hw) (fun _ hw => hw.sel [0, 1, 2, 3] (by decide) rfl) ?_
                                            refine V.done (by kernel_rfl) ?_
                                            refine E.blockN ?_
                                            refine E.end0 rfl (fun w1 hw => ?_)
                                            exact ⟨_, _, rfl, ⟨l100, rfl, rfl, h⟩, (fun _ hw => hw) _ hw⟩
                                          ·
                                            refine L.y rfl (Y.nilCheck rfl) ?_
                                            refine L.nil ?_
                                            refine E.toV (D' := Cls w [] [.obj b3 [.int .i64 0, .slice none 0 0, .slice none 0 0] 111, .obj b2 [.int .i64 a1.Kind, .int .i64 a1.Who, .int .i64 a1.By] 113, .obj gb1 [.int .i64 a0.Lead, gv2, gv4] 111, .sl gv2 3 1 (gl3.map I)]) (fun _ hw => hw) (fun _ hw => hw.sel [0, 1, 2, 3] (by decide) rfl) ?_
                                            refine V.y (i := 7) (Nx.of (by kernel_rfl) rfl) rfl rfl rfl (Y.fieldP fd111_2 rfl) ?_
                                            refine V.y (i := 8) (Nx.of (by kernel_rfl) rfl) rfl rfl rfl (Y.loadP (i := 2) ag24 rfl rfl rfl) ?_
                                            refine V.eff (i := 1) (by kernel_rfl) rfl ?_
                                            refine L.y rfl (Y.nilCheck rfl) ?_
                                            refine L.nil ?_
                                            refine E.toV (D' := Cls w [] [.obj b3 [.int .i64 0, .slice none 0 0, .slice none 0 0] 111, .obj b2 [.int .i64 a1.Kind, .int .i64 a1.Who, .int .i64 a1.By] 113, .obj gb1 [.int .i64 a0.Lead, gv2, gv4] 111, .sl gv2 3 1 (gl3.map I)]) (fun _ hw => hw) (fun _ hw => hw.sel [0, 1, 2, 3] (by decide) rfl) ?_
                                            refine V.y (i := 2) (Nx.of (by kernel_rfl) rfl) rfl rfl rfl (Y.fieldP fd111_2 rfl) ?_
                                            refine V.y (i := 3) (Nx.of (by kernel_rfl) rfl) rfl rfl rfl (Y.loadP (i := 2) ag24 rfl rfl rfl) ?_
                                            refine V.eff (i := 10) (by kernel_rfl) rfl ?_
                                            refine L.m (V := fun _ => el gv4 (a1.By.toNat * 1)) h rfl (Y.indexM (g := I) (l := gl5) Try.underlying24 sz3 rfl rfl (fun w hw => As.at_ (hw.get (i := 4) rfl))) (fun x101 ex101 h => ?_)
                                            refine L.nil ?_
                                            refine E.toV (D' := Cls w [] [.obj b3 [.int .i64 0, .slice none 0 0, .slice none 0 0] 111, .obj b2 [.int .i64 a1.Kind, .int .i64 a1.Who, .int .i64 a1.By] 113, .obj gb1 [.int .i64 a0.Lead, gv2, gv4] 111, .sl gv2 3 1 (gl3.map I)]) (fun _ hw => hw) (fun _ hw => hw.sel [0, 1, 2, 3] (by decide) rfl) ?_
                                            refine V.eff (i := 11) (by kernel_rfl) rfl ?_
                                            refine L.storeSlM (q := 4) (row := I) (vs := [.int .i64 3]) (j := 0) (u1 := 3) h sz3 rfl rfl rfl rfl rfl (all1 rfl all0) rfl ex101 rfl rfl ?_
                                            intro l102 el102 h
                                            refine L.nil ?_
                                            refine E.toV (D' := Cls w [] [.obj b3 [.int .i64 0, .slice none 0 0, .slice none 0 0] 111, .obj b2 [.int .i64 a1.Kind, .int .i64 a1.Who, .int .i64 a1.By] 113, .obj gb1 [.int .i64 a0.Lead, gv2, gv4] 111, .sl gv2 3 1 (gl3.map I)]) (fun _ hw => hw) (fun _ hw => hw.sel [0, 1, 2, 3] (by decide) rfl) ?_
                                            refine V.eff (i := 12) (by kernel_rfl) rfl ?_
                                            refine L.m (V := fun _ => el gv4 (a1.Who.toNat * 1)) h rfl (Y.indexM (g := I) (l := l102) Try.underlying24 sz3 rfl rfl (fun w hw => As.at_ (hw.get (i := 4) rfl))) (fun x103 ex103 h => ?_)
                                            refine L.nil ?_
                                            refine E.toV (D' := Cls w [] [.obj b3 [.int .i64 0, .slice none 0 0, .slice none 0 0] 111, .obj b2 [.int .i64 a1.Kind, .int .i64 a1.Who, .int .i64 a1.By] 113, .obj gb1 [.int .i64 a0.Lead, gv2, gv4] 111, .sl gv2 3 1 (gl3.map I)]) (fun _ hw => hw) (fun _ hw => hw.sel [0, 1, 2, 3] (by decide) rfl) ?_
                                            refine V.eff (i := 13) (by kernel_rfl) rfl ?_
                                            refine L.storeSlM (q := 4) (row := I) (vs := [.int .i64 3]) (j := 0) (u1 := 3) h sz3 rfl rfl rfl rfl rfl (all1 rfl all0) rfl ex103 rfl rfl ?_
                                            intro l104 el104 h
                                            refine L.nil ?_
                                            refine E.toV (D' := Cls w [] [.obj b3 [.int .i64 0, .slice none 0 0, .slice none 0 0] 111, .obj b2 [.int .i64 a1.Kind, .int .i64 a1.Who, .int .i64 a1.By] 113, .obj gb1 [.int .i64 a0.Lead, gv2, gv4] 111, .sl gv2 3 1 (gl3.map I)]) (fun _ hw => hw) (fun _ hw => hw.sel [0, 1, 2, 3] (by decide) rfl) ?_
                                            refine V.done (by kernel_rfl) ?_
                                            refine E.blockN ?_
                                            refine E.end0 rfl (fun w1 hw => ?_)
                                            exact ⟨_, _, rfl, ⟨l104, rfl, rfl, h⟩, (fun _ hw => hw) _ hw⟩
                                  ·
                                    rintro _ _ ⟨gl28, rfl, rfl, h⟩
                                    rw [m74_pact_Step_K23] at h
                                    refine L.nil ?_
                                    refine E.blockN ?_
                                    exact E.joinJ ⟨a0.Lead, gl3, gl28, rfl, rfl, h⟩ ⟨rfl, rfl, trivial⟩ (fun _ hw => hw.sel [0, 2, 3, 4] (by decide) rfl)
                                ·
                                  refine L.y rfl (Y.assign rfl) ?_
                                  refine L.nil ?_
                                  refine E.thenN ?_
                                  refine W.condF rfl ?_
                                  refine W.skip ?_
                                  refine E.blockN ?_
                                  exact E.joinJ ⟨a0.Lead, gl3, gl5, rfl, rfl, h⟩ ⟨rfl, rfl, trivial⟩ (fun _ hw => hw.sel [0, 2, 3, 4] (by decide) rfl)
                              ·
                                replace h := iteT h
                                refine W.condT rfl ?_
                                refine W.region ?_
                                refine L.y rfl (Y.fieldP fd113_1 rfl) ?_
                                refine L.y rfl (Y.loadP (i := 1) ag3 rfl rfl rfl) ?_
                                refine L.callJ (fun v D => ∃ (gl31 : (List Int)), v = .tuple #[] ∧ D = Cls w [] [.obj b3 [.int .i64 0, .slice none 0 0, .slice none 0 0] 111, .obj b2 [.int .i64 a1.Kind, .int .i64 a1.Who, .int .i64 a1.By] 113, .obj gb1 [.int .i64 a0.Lead, gv2, gv4] 111, .sl gv2 3 1 (gl3.map I), .sl gv4 3 1 (gl31.map I)] ∧ m74_pact_Step_K27 a0 gl3 gl31 = some r) rfl en131 rfl Try.func131 rfl rfl rfl ?_ ?_
                                ·
                                  refine W.seqJ (fun gs D => ∃ (gb32 : Bool), gs = [(0, pt gb1 0), (1, .int .i64 a1.Who), (4, .bool gb32)] ∧ D = Cls w [] [.obj b3 [.int .i64 0, .slice none 0 0, .slice none 0 0] 111, .obj b2 [.int .i64 a1.Kind, .int .i64 a1.Who, .int .i64 a1.By] 113, .obj gb1 [.int .i64 a0.Lead, gv2, gv4] 111, .sl gv2 3 1 (gl3.map I), .sl gv4 3 1 (gl5.map I)] ∧ m74_pact_Step_K28 a0 gl5 a1 gl3 gb32 = some r) ?_ ?_
                                  ·
                                    refine W.region ?_
                                    refine L.cutJ 18 (fun gs D => ∃ (gb33 : Bool), gs = [(0, pt gb1 0), (1, .int .i64 a1.Who), (22, .bool gb33)] ∧ D = Cls w [] [.obj b3 [.int .i64 0, .slice none 0 0, .slice none 0 0] 111, .obj b2 [.int .i64 a1.Kind, .int .i64 a1.Who, .int .i64 a1.By] 113, .obj gb1 [.int .i64 a0.Lead, gv2, gv4] 111, .sl gv2 3 1 (gl3.map I), .sl gv4 3 1 (gl5.map I)] ∧ m74_pact_Step_K29 a0 gl5 a1 gl3 gb33 = some r) ?_ ?_
                                    ·
                                      refine L.y rfl (Y.move rfl) ?_
                                      refine L.y rfl (Y.nilCheck rfl) ?_
                                      refine L.y rfl (Y.fieldP fd111_2 rfl) ?_
                                      refine L.y rfl (Y.loadP (i := 2) ag24 rfl rfl rfl) ?_
                                      refine L.y rfl (Y.move rfl) ?_
                                      refine L.m (V := fun _ => el gv4 (a1.Who.toNat * 1)) h rfl (Y.indexM (g := I) (l := gl5) Try.underlying24 sz3 rfl rfl (fun w hw => As.at_ (hw.get (i := 4) rfl))) (fun x115 ex115 h => ?_)
                                      refine L.y rfl (Y.loadE1 (u := .int .i64 x115) ag3 rfl (fun w hw => As.at_ (hw.get (i := 4) rfl)) (idx_map ex115)) ?_
                                      refine L.ite h rfl (Y.eql rfl rfl) (fun c116 h => ?_) (fun c116 h => ?_)
                                      ·
                                        refine L.y rfl (Y.move rfl) ?_
                                        refine L.pass rfl rfl (by nofun) ?_
                                        refine L.pass rfl rfl (by nofun) ?_
                                        refine L.pass rfl rfl (by nofun) ?_
                                        refine L.pass rfl rfl (by nofun) ?_
                                        refine L.pass rfl rfl (by nofun) ?_
                                        refine L.pass rfl rfl (by nofun) ?_
                                        refine L.pass rfl rfl (by nofun) ?_
                                        refine L.pass rfl rfl (by nofun) ?_
                                        refine L.y rfl (Y.pickT rfl rfl) ?_
                                        refine L.nil ?_
                                        exact E.joinJ ⟨true, rfl, rfl, h⟩ ⟨rfl, rfl, rfl, trivial⟩ (fun _ hw => hw)
                                      ·
                                        refine L.y rfl (Y.move rfl) ?_
                                        refine L.take rfl ?_
                                        refine L.y rfl (Y.move rfl) ?_
                                        refine L.take rfl ?_
                                        refine L.y rfl (Y.nilCheck rfl) ?_
                                        refine L.take rfl ?_
                                        refine L.y rfl (Y.fieldP fd111_2 rfl) ?_
                                        refine L.take rfl ?_
                                        refine L.y rfl (Y.loadP (i := 2) ag24 rfl rfl rfl) ?_
                                        refine L.take rfl ?_
                                        refine L.y rfl (Y.move rfl) ?_
                                        refine L.take rfl ?_
                                        refine L.m (V := fun _ => el gv4 (a1.Who.toNat * 1)) h rfl (Y.indexM (g := I) (l := gl5) Try.underlying24 sz3 rfl rfl (fun w hw => As.at_ (hw.get (i := 4) rfl))) (fun x117 ex117 h => ?_)
                                        refine L.take rfl ?_
                                        refine L.y rfl (Y.loadE1 (u := .int .i64 x117) ag3 rfl (fun w hw => As.at_ (hw.get (i := 4) rfl)) (idx_map ex117)) ?_
                                        refine L.take rfl ?_
                                        refine L.ite h rfl (Y.eql rfl rfl) (fun c118 h => ?_) (fun c118 h => ?_)
                                        ·
                                          refine L.y rfl (Y.pickF rfl rfl) ?_
                                          refine L.nil ?_
                                          exact E.joinJ ⟨true, rfl, rfl, h⟩ ⟨rfl, rfl, rfl, trivial⟩ (fun _ hw => hw)
                                        ·
                                          refine L.y rfl (Y.pickF rfl rfl) ?_
                                          refine L.nil ?_
                                          exact E.joinJ ⟨false, rfl, rfl, h⟩ ⟨rfl, rfl, rfl, trivial⟩ (fun _ hw => hw)
                                    ·
                                      rintro _ _ ⟨gb33, rfl, rfl, h⟩
                                      rw [m74_pact_Step_K29] at h
                                      rcases gb33 with _ | _
                                      ·
                                        replace h := iteF h
                                        refine L.y rfl (Y.assign rfl) ?_
                                        refine L.nil ?_
                                        exact E.joinJ ⟨false, rfl, rfl, h⟩ ⟨rfl, rfl, rfl, trivial⟩ (fun _ hw => hw)
                                      ·
                                        replace h := iteT h
                                        refine L.y rfl (Y.assign rfl) ?_
                                        refine L.nil ?_
                                        exact E.joinJ ⟨true, rfl, rfl, h⟩ ⟨rfl, rfl, rfl, trivial⟩ (fun _ hw => hw)
                                  ·
                                    rintro _ _ ⟨gb32, rfl, rfl, h⟩
                                    rw [m74_pact_Step_K28] at h
                                    rcases gb32 with _ | _
                                    ·
                                      replace h := iteF h
                                      refine W.block ?_
                                      refine W.seq ?_
                                      refine W.region ?_
                                      refine L.y rfl (Y.move rfl) ?_
                                      refine L.y rfl (Y.move rfl) ?_
                                      refine L.pass rfl rfl (by nofun) ?_
                                      refine L.pass rfl rfl (by nofun) ?_
                                      refine L.pass rfl rfl (by nofun) ?_
                                      refine L.pass rfl rfl (by nofun) ?_
                                      refine L.pass rfl rfl (by nofun) ?_
                                      refine L.y rfl (Y.pickF rfl rfl) ?_
                                      refine L.y rfl (Y.assign rfl) ?_
                                      refine L.nil ?_
                                      refine E.thenN ?_
                                      refine W.condF rfl ?_
                                      refine W.seq ?_
                                      refine W.region ?_
                                      refine L.y rfl (Y.move rfl) ?_
                                      refine L.y rfl (Y.move rfl) ?_
                                      refine L.pass rfl rfl (by nofun) ?_
                                      refine L.pass rfl rfl (by nofun) ?_
                                      refine L.pass rfl rfl (by nofun) ?_
                                      refine L.pass rfl rfl (by nofun) ?_
                                      refine L.pass rfl rfl (by nofun) ?_
                                      refine L.y rfl (Y.pickF rfl rfl) ?_
                                      refine L.y rfl (Y.assign rfl) ?_
                                      refine L.nil ?_
                                      refine E.thenN ?_
                                      refine W.condF rfl ?_
                                      refine W.skip ?_
                                      refine E.blockN ?_
                                      refine E.end0 rfl (fun w1 hw => ?_)
                                      exact ⟨_, _, rfl, ⟨gl5, rfl, rfl, h⟩, (fun _ hw => hw) _ hw⟩
                                    ·
                                      replace h := iteT h
                                      refine W.block ?_
                                      refine W.seq ?_
                                      refine W.region ?_
                                      refine L.y rfl (Y.move rfl) ?_
                                      refine L.y rfl (Y.move rfl) ?_
                                      refine L.take rfl ?_
                                      refine L.y rfl (Y.move rfl) ?_
                                      refine L.take rfl ?_
                                      refine L.y rfl (Y.nilCheck rfl) ?_
                                      refine L.take rfl ?_
                                      refine L.y rfl (Y.fieldP fd111_0 rfl) ?_
                                      refine L.take rfl ?_
                                      refine L.y rfl (Y.loadP (i := 2) ag3 rfl rfl rfl) ?_
                                      refine L.take rfl ?_
                                      refine L.ite h rfl (Y.eql rfl rfl) (fun c109 h => ?_) (fun c109 h => ?_)
                                      ·
                                        refine L.y rfl (Y.pickT rfl rfl) ?_
                                        refine L.y rfl (Y.assign rfl) ?_
                                        refine L.nil ?_
                                        refine E.thenN ?_
                                        refine W.condT rfl ?_
                                        refine W.region ?_
                                        refine L.y rfl (Y.move rfl) ?_
                                        refine L.y rfl (Y.nilCheck rfl) ?_
                                        refine L.y rfl (Y.fieldP fd111_2 rfl) ?_
                                        refine L.y rfl (Y.loadP (i := 2) ag24 rfl rfl rfl) ?_
                                        refine L.y rfl (Y.move rfl) ?_
                                        refine L.m (V := fun _ => el gv4 (a1.Who.toNat * 1)) h rfl (Y.indexM (g := I) (l := gl5) Try.underlying24 sz3 rfl rfl (fun w hw => As.at_ (hw.get (i := 4) rfl))) (fun x110 ex110 h => ?_)
                                        refine L.storeSlM (q := 4) (row := I) (vs := [.int .i64 2]) (j := 0) (u1 := 2) h sz3 rfl rfl rfl rfl rfl (all1 rfl all0) rfl ex110 rfl rfl ?_
                                        intro l111 el111 h
                                        refine L.nil ?_
                                        refine E.blockN ?_
                                        refine E.end0 rfl (fun w1 hw => ?_)
                                        exact ⟨_, _, rfl, ⟨l111, rfl, rfl, h⟩, (fun _ hw => hw) _ hw⟩
                                      ·
                                        refine L.y rfl (Y.pickT rfl rfl) ?_
                                        refine L.y rfl (Y.assign rfl) ?_
                                        refine L.nil ?_
                                        refine E.thenN ?_
                                        refine W.condF rfl ?_
                                        refine W.seq ?_
                                        refine W.region ?_
                                        refine L.y rfl (Y.move rfl) ?_
                                        refine L.y rfl (Y.move rfl) ?_
                                        refine L.take rfl ?_
                                        refine L.y rfl (Y.move rfl) ?_
                                        refine L.take rfl ?_
                                        refine L.y rfl (Y.nilCheck rfl) ?_
                                        refine L.take rfl ?_
                                        refine L.y rfl (Y.fieldP fd111_0 rfl) ?_
                                        refine L.take rfl ?_
                                        refine L.y rfl (Y.loadP (i := 2) ag3 rfl rfl rfl) ?_
                                        refine L.take rfl ?_
                                        refine L.ite h rfl (Y.eql rfl rfl) (fun c112 h => ?_) (fun c112 h => ?_)
                                        ·
                                          refine L.y rfl (Y.pickT rfl rfl) ?_
                                          refine L.y rfl (Y.assign rfl) ?_
                                          refine L.nil ?_
                                          refine E.thenN ?_
                                          refine W.condT rfl ?_
                                          refine W.region ?_
                                          refine L.y rfl (Y.move rfl) ?_
                                          refine L.y rfl (Y.nilCheck rfl) ?_
                                          refine L.y rfl (Y.fieldP fd111_2 rfl) ?_
                                          refine L.y rfl (Y.loadP (i := 2) ag24 rfl rfl rfl) ?_
                                          refine L.y rfl (Y.move rfl) ?_
                                          refine L.m (V := fun _ => el gv4 (a1.Who.toNat * 1)) h rfl (Y.indexM (g := I) (l := gl5) Try.underlying24 sz3 rfl rfl (fun w hw => As.at_ (hw.get (i := 4) rfl))) (fun x113 ex113 h => ?_)
                                          refine L.storeSlM (q := 4) (row := I) (vs := [.int .i64 3]) (j := 0) (u1 := 3) h sz3 rfl rfl rfl rfl rfl (all1 rfl all0) rfl ex113 rfl rfl ?_
                                          intro l114 el114 h
                                          refine L.nil ?_
                                          refine E.blockN ?_
                                          refine E.end0 rfl (fun w1 hw => ?_)
                                          exact ⟨_, _, rfl, ⟨l114, rfl, rfl, h⟩, (fun _ hw => hw) _ hw⟩
                                        ·
                                          refine L.y rfl (Y.pickT rfl rfl) ?_
                                          refine L.y rfl (Y.assign rfl) ?_
                                          refine L.nil ?_
                                          refine E.thenN ?_
                                          refine W.condF rfl ?_
                                          refine W.skip ?_
                                          refine E.blockN ?_
                                          refine E.end0 rfl (fun w1 hw => ?_)
                                          exact ⟨_, _, rfl, ⟨gl5, rfl, rfl, h⟩, (fun _ hw => hw) _ hw⟩
                                ·
                                  rintro _ _ ⟨gl31, rfl, rfl, h⟩
                                  rw [m74_pact_Step_K27] at h
                                  refine L.nil ?_
                                  refine E.blockN ?_
                                  exact E.joinJ ⟨a0.Lead, gl3, gl31, rfl, rfl, h⟩ ⟨rfl, rfl, trivial⟩ (fun _ hw => hw.sel [0, 2, 3, 4] (by decide) rfl)
                        ·
                          replace h := iteT h
                          refine W.condT rfl ?_
                          refine W.region ?_
                          refine L.callJ (fun v D => ∃ (gx34 : Int), v = .tuple #[] ∧ D = Cls w [] [.obj b3 [.int .i64 0, .slice none 0 0, .slice none 0 0] 111, .obj b2 [.int .i64 a1.Kind, .int .i64 a1.Who, .int .i64 a1.By] 113, .obj gb1 [.int .i64 gx34, gv2, gv4] 111, .sl gv2 3 1 (gl3.map I), .sl gv4 3 1 (gl5.map I)] ∧ m74_pact_Step_K30 gl3 gl5 gx34 = some r) rfl en130 rfl Try.func130 rfl rfl rfl ?_ ?_
                          ·
                            refine W.block ?_
                            refine W.seq ?_
                            refine W.region ?_
                            refine L.y rfl (Y.move rfl) ?_
                            refine L.y rfl (Y.nilCheck rfl) ?_
                            refine L.y rfl (Y.fieldP fd111_0 rfl) ?_
                            refine L.y rfl (Y.loadP (i := 2) ag3 rfl rfl rfl) ?_
                            refine L.ite h rfl (Y.neq rfl rfl) (fun c120 h => ?_) (fun c120 h => ?_)
                            ·
                              refine L.y rfl (Y.assign rfl) ?_
                              refine L.nil ?_
                              refine E.thenN ?_
                              refine W.condT rfl ?_
                              refine W.skip ?_
                              refine E.blockN ?_
                              refine E.end0 rfl (fun w1 hw => ?_)
                              exact ⟨_, _, rfl, ⟨a0.Lead, rfl, rfl, h⟩, (fun _ hw => hw) _ hw⟩
                            ·
                              refine L.y rfl (Y.assign rfl) ?_
                              refine L.nil ?_
                              refine E.thenN ?_
                              refine W.condF rfl ?_
                              refine W.seq ?_
                              refine W.region ?_
                              refine L.y rfl (Y.move rfl) ?_
                              refine L.y rfl (Y.nilCheck rfl) ?_
                              refine L.y rfl (Y.fieldP fd111_1 rfl) ?_
                              refine L.y rfl (Y.loadP (i := 2) ag24 rfl rfl rfl) ?_
                              obtain ⟨b121, e122, h⟩ := bind1S h
                              refine L.y rfl (Y.does en134 rfl (fun w' hw => (w134_slices_Contains_int gl3 2 gv2 w' _ e122 (As.at_ (hw.get (i := 3) rfl))).mono (fun _ _ h => h.1))) ?_
                              rcases b121 with _ | _
                              ·
                                replace h := iteF h
                                refine L.y rfl (Y.assign rfl) ?_
                                refine L.nil ?_
                                refine E.thenN ?_
                                refine W.condF rfl ?_
                                refine W.seq ?_
                                refine W.region ?_
                                refine L.y rfl (Y.move rfl) ?_
                                refine L.y rfl (Y.nilCheck rfl) ?_
                                refine L.y rfl (Y.fieldP fd111_1 rfl) ?_
                                refine L.y rfl (Y.loadP (i := 2) ag24 rfl rfl rfl) ?_
                                obtain ⟨b123, e124, h⟩ := bind1S h
                                refine L.y rfl (Y.does en134 rfl (fun w' hw => (w134_slices_Contains_int gl3 0 gv2 w' _ e124 (As.at_ (hw.get (i := 3) rfl))).mono (fun _ _ h => h.1))) ?_
                                rcases b123 with _ | _
                                ·
                                  replace h := iteF h
                                  refine L.y rfl (Y.not rfl) ?_
                                  refine L.y rfl (Y.assign rfl) ?_
                                  refine L.nil ?_
                                  refine E.thenN ?_
                                  refine W.condT rfl ?_
                                  refine W.region ?_
                                  refine L.y rfl (Y.move rfl) ?_
                                  refine L.y rfl (Y.nilCheck rfl) ?_
                                  refine L.y rfl (Y.fieldP fd111_0 rfl) ?_
                                  refine L.store (i := 2) sz3 rfl rfl rfl rfl (by simp [Value.oneCell', Value.cells, st]) rfl (Nat.le_of_ble_eq_true rfl) ?_
                                  refine L.nil ?_
                                  refine E.blockN ?_
                                  refine E.end0 rfl (fun w1 hw => ?_)
                                  exact ⟨_, _, rfl, ⟨1, rfl, rfl, h⟩, (fun _ hw => hw) _ hw⟩
                                ·
                                  replace h := iteT h
                                  refine L.y rfl (Y.not rfl) ?_
                                  refine L.y rfl (Y.assign rfl) ?_
                                  refine L.nil ?_
                                  refine E.thenN ?_
                                  refine W.condF rfl ?_
                                  refine W.skip ?_
                                  refine E.blockN ?_
                                  refine E.end0 rfl (fun w1 hw => ?_)
                                  exact ⟨_, _, rfl, ⟨a0.Lead, rfl, rfl, h⟩, (fun _ hw => hw) _ hw⟩
                              ·
                                replace h := iteT h
                                refine L.y rfl (Y.assign rfl) ?_
                                refine L.nil ?_
                                refine E.thenN ?_
                                refine W.condT rfl ?_
                                refine W.region ?_
                                refine L.y rfl (Y.move rfl) ?_
                                refine L.y rfl (Y.nilCheck rfl) ?_
                                refine L.y rfl (Y.fieldP fd111_0 rfl) ?_
                                refine L.store (i := 2) sz3 rfl rfl rfl rfl (by simp [Value.oneCell', Value.cells, st]) rfl (Nat.le_of_ble_eq_true rfl) ?_
                                refine L.nil ?_
                                refine E.blockN ?_
                                refine E.end0 rfl (fun w1 hw => ?_)
                                exact ⟨_, _, rfl, ⟨2, rfl, rfl, h⟩, (fun _ hw => hw) _ hw⟩
                          ·
                            rintro _ _ ⟨gx34, rfl, rfl, h⟩
                            rw [m74_pact_Step_K30] at h
                            refine L.nil ?_
                            refine E.blockN ?_
                            exact E.joinJ ⟨gx34, gl3, gl5, rfl, rfl, h⟩ ⟨rfl, rfl, trivial⟩ (fun _ hw => hw.sel [0, 2, 3, 4] (by decide) rfl)
                    ·
                      replace h := iteT h
                      refine W.condT rfl ?_
                      refine W.region ?_
                      refine L.y rfl (Y.fieldP fd113_1 rfl) ?_
                      refine L.y rfl (Y.loadP (i := 1) ag3 rfl rfl rfl) ?_
                      refine L.callJ (fun v D => ∃ (gl35 : (List Int)), v = .tuple #[] ∧ D = Cls w [] [.obj b3 [.int .i64 0, .slice none 0 0, .slice none 0 0] 111, .obj b2 [.int .i64 a1.Kind, .int .i64 a1.Who, .int .i64 a1.By] 113, .obj gb1 [.int .i64 a0.Lead, gv2, gv4] 111, .sl gv2 3 1 (gl35.map I), .sl gv4 3 1 (gl5.map I)] ∧ m74_pact_Step_K31 a0 gl5 gl35 = some r) rfl en129 rfl Try.func129 rfl rfl rfl ?_ ?_
                      ·
                        refine W.block ?_
                        refine W.seq ?_
                        refine W.region ?_
                        refine L.y rfl (Y.move rfl) ?_
                        refine L.y rfl (Y.nilCheck rfl) ?_
                        refine L.y rfl (Y.fieldP fd111_0 rfl) ?_
                        refine L.y rfl (Y.loadP (i := 2) ag3 rfl rfl rfl) ?_
                        refine L.ite h rfl (Y.neq rfl rfl) (fun c126 h => ?_) (fun c126 h => ?_)
                        ·
                          refine L.y rfl (Y.assign rfl) ?_
                          refine L.nil ?_
                          refine E.thenN ?_
                          refine W.condT rfl ?_
                          refine W.skip ?_
                          refine E.blockN ?_
                          refine E.end0 rfl (fun w1 hw => ?_)
                          exact ⟨_, _, rfl, ⟨gl3, rfl, rfl, h⟩, (fun _ hw => hw) _ hw⟩
                        ·
                          refine L.y rfl (Y.assign rfl) ?_
                          refine L.nil ?_
                          refine E.thenN ?_
                          refine W.condF rfl ?_
                          refine W.seq ?_
                          refine W.region ?_
                          refine L.y rfl (Y.move rfl) ?_
                          refine L.y rfl (Y.nilCheck rfl) ?_
                          refine L.y rfl (Y.fieldP fd111_2 rfl) ?_
                          refine L.y rfl (Y.loadP (i := 2) ag24 rfl rfl rfl) ?_
                          refine L.y rfl (Y.move rfl) ?_
                          refine L.m (V := fun _ => el gv4 (a1.Who.toNat * 1)) h rfl (Y.indexM (g := I) (l := gl5) Try.underlying24 sz3 rfl rfl (fun w hw => As.at_ (hw.get (i := 4) rfl))) (fun x127 ex127 h => ?_)
                          refine L.y rfl (Y.loadE1 (u := .int .i64 x127) ag3 rfl (fun w hw => As.at_ (hw.get (i := 4) rfl)) (idx_map ex127)) ?_
                          refine L.ite h rfl (Y.eql rfl rfl) (fun c128 h => ?_) (fun c128 h => ?_)
                          ·
                            refine L.y rfl (Y.assign rfl) ?_
                            refine L.nil ?_
                            refine E.thenN ?_
                            refine W.condT rfl ?_
                            refine W.region ?_
                            refine L.y rfl (Y.move rfl) ?_
                            refine L.y rfl (Y.nilCheck rfl) ?_
                            refine L.y rfl (Y.fieldP fd111_1 rfl) ?_
                            refine L.y rfl (Y.loadP (i := 2) ag24 rfl rfl rfl) ?_
                            refine L.y rfl (Y.move rfl) ?_
                            refine L.m (V := fun _ => el gv2 (a1.Who.toNat * 1)) h rfl (Y.indexM (g := I) (l := gl3) Try.underlying24 sz3 rfl rfl (fun w hw => As.at_ (hw.get (i := 3) rfl))) (fun x129 ex129 h => ?_)
                            refine L.storeSlM (q := 3) (row := I) (vs := [.int .i64 1]) (j := 0) (u1 := 1) h sz3 rfl rfl rfl rfl rfl (all1 rfl all0) rfl ex129 rfl rfl ?_
                            intro l130 el130 h
                            refine L.nil ?_
                            refine E.blockN ?_
                            refine E.end0 rfl (fun w1 hw => ?_)
                            exact ⟨_, _, rfl, ⟨l130, rfl, rfl, h⟩, (fun _ hw => hw) _ hw⟩
                          ·
                            refine L.y rfl (Y.assign rfl) ?_
                            refine L.nil ?_
                            refine E.thenN ?_
                            refine W.condF rfl ?_
                            refine W.seq ?_
                            refine W.region ?_
                            refine L.cutJ 18 (fun gs D => ∃ (gb36 : Bool), gs = [(0, pt gb1 0), (1, .int .i64 a1.Who), (43, .bool gb36)] ∧ D = Cls w [] [.obj b3 [.int .i64 0, .slice none 0 0, .slice none 0 0] 111, .obj b2 [.int .i64 a1.Kind, .int .i64 a1.Who, .int .i64 a1.By] 113, .obj gb1 [.int .i64 a0.Lead, gv2, gv4] 111, .sl gv2 3 1 (gl3.map I), .sl gv4 3 1 (gl5.map I)] ∧ m74_pact_Step_K32 gl3 a1 a0 gl5 gb36 = some r) ?_ ?_
                            ·
                              refine L.y rfl (Y.move rfl) ?_
                              refine L.y rfl (Y.nilCheck rfl) ?_
                              refine L.y rfl (Y.fieldP fd111_2 rfl) ?_
                              refine L.y rfl (Y.loadP (i := 2) ag24 rfl rfl rfl) ?_
                              refine L.y rfl (Y.move rfl) ?_
                              refine L.m (V := fun _ => el gv4 (a1.Who.toNat * 1)) h rfl (Y.indexM (g := I) (l := gl5) Try.underlying24 sz3 rfl rfl (fun w hw => As.at_ (hw.get (i := 4) rfl))) (fun x133 ex133 h => ?_)
                              refine L.y rfl (Y.loadE1 (u := .int .i64 x133) ag3 rfl (fun w hw => As.at_ (hw.get (i := 4) rfl)) (idx_map ex133)) ?_
                              refine L.ite h rfl (Y.eql rfl rfl) (fun c134 h => ?_) (fun c134 h => ?_)
                              ·
                                refine L.y rfl (Y.move rfl) ?_
                                refine L.take rfl ?_
                                refine L.y rfl (Y.move rfl) ?_
                                refine L.take rfl ?_
                                refine L.y rfl (Y.nilCheck rfl) ?_
                                refine L.take rfl ?_
                                refine L.y rfl (Y.fieldP fd111_1 rfl) ?_
                                refine L.take rfl ?_
                                refine L.y rfl (Y.loadP (i := 2) ag24 rfl rfl rfl) ?_
                                refine L.take rfl ?_
                                refine L.y rfl (Y.move rfl) ?_
                                refine L.take rfl ?_
                                refine L.m (V := fun _ => el gv2 (a1.Who.toNat * 1)) h rfl (Y.indexM (g := I) (l := gl3) Try.underlying24 sz3 rfl rfl (fun w hw => As.at_ (hw.get (i := 3) rfl))) (fun x135 ex135 h => ?_)
                                refine L.take rfl ?_
                                refine L.y rfl (Y.loadE1 (u := .int .i64 x135) ag3 rfl (fun w hw => As.at_ (hw.get (i := 3) rfl)) (idx_map ex135)) ?_
                                refine L.take rfl ?_
                                refine L.ite h rfl (Y.eql rfl rfl) (fun c136 h => ?_) (fun c136 h => ?_)
                                ·
                                  refine L.y rfl (Y.pickT rfl rfl) ?_
                                  refine L.nil ?_
                                  exact E.joinJ ⟨true, rfl, rfl, h⟩ ⟨rfl, rfl, rfl, trivial⟩ (fun _ hw => hw)
                                ·
                                  refine L.y rfl (Y.pickT rfl rfl) ?_
                                  refine L.nil ?_
                                  exact E.joinJ ⟨false, rfl, rfl, h⟩ ⟨rfl, rfl, rfl, trivial⟩ (fun _ hw => hw)
                              ·
                                refine L.y rfl (Y.move rfl) ?_
                                refine L.pass rfl rfl (by nofun) ?_
                                refine L.pass rfl rfl (by nofun) ?_
                                refine L.pass rfl rfl (by nofun) ?_
                                refine L.pass rfl rfl (by nofun) ?_
                                refine L.pass rfl rfl (by nofun) ?_
                                refine L.pass rfl rfl (by nofun) ?_
                                refine L.pass rfl rfl (by nofun) ?_
                                refine L.pass rfl rfl (by nofun) ?_
                                refine L.y rfl (Y.pickF rfl rfl) ?_
                                refine L.nil ?_
                                exact E.joinJ ⟨false, rfl, rfl, h⟩ ⟨rfl, rfl, rfl, trivial⟩ (fun _ hw => hw)
                            ·
                              rintro _ _ ⟨gb36, rfl, rfl, h⟩
                              rw [m74_pact_Step_K32] at h
                              rcases gb36 with _ | _
                              ·
                                replace h := iteF h
                                refine L.y rfl (Y.assign rfl) ?_
                                refine L.nil ?_
                                refine E.thenN ?_
                                refine W.condF rfl ?_
                                refine W.skip ?_
                                refine E.blockN ?_
                                refine E.end0 rfl (fun w1 hw => ?_)
                                exact ⟨_, _, rfl, ⟨gl3, rfl, rfl, h⟩, (fun _ hw => hw) _ hw⟩
                              ·
                                replace h := iteT h
                                refine L.y rfl (Y.assign rfl) ?_
                                refine L.nil ?_
                                refine E.thenN ?_
                                refine W.condT rfl ?_
                                refine W.region ?_
                                refine L.y rfl (Y.move rfl) ?_
                                refine L.y rfl (Y.nilCheck rfl) ?_
                                refine L.y rfl (Y.fieldP fd111_1 rfl) ?_
                                refine L.y rfl (Y.loadP (i := 2) ag24 rfl rfl rfl) ?_
                                refine L.y rfl (Y.move rfl) ?_
                                refine L.m (V := fun _ => el gv2 (a1.Who.toNat * 1)) h rfl (Y.indexM (g := I) (l := gl3) Try.underlying24 sz3 rfl rfl (fun w hw => As.at_ (hw.get (i := 3) rfl))) (fun x131 ex131 h => ?_)
                                refine L.storeSlM (q := 3) (row := I) (vs := [.int .i64 2]) (j := 0) (u1 := 2) h sz3 rfl rfl rfl rfl rfl (all1 rfl all0) rfl ex131 rfl rfl ?_
                                intro l132 el132 h
                                refine L.nil ?_
                                refine E.blockN ?_
                                refine E.end0 rfl (fun w1 hw => ?_)
                                exact ⟨_, _, rfl, ⟨l132, rfl, rfl, h⟩, (fun _ hw => hw) _ hw⟩
                      ·
                        rintro _ _ ⟨gl35, rfl, rfl, h⟩
                        rw [m74_pact_Step_K31] at h
                        refine L.nil ?_
                        refine E.blockN ?_
                        exact E.joinJ ⟨a0.Lead, gl35, gl5, rfl, rfl, h⟩ ⟨rfl, rfl, trivial⟩ (fun _ hw => hw.sel [0, 2, 3, 4] (by decide) rfl)
            ·
              rintro _ _ ⟨gx22, gl23, gl24, rfl, rfl, h⟩
              rw [m74_pact_Step_K19] at h
              refine W.seq ?_
              refine W.region ?_
              refine L.y rfl (Y.loadPW (i := 1) ag111 sz111 rfl rfl rfl) ?_
              refine L.storeC (i := 0) sz111 rfl rfl rfl rfl (fun w hw => (all1 rfl (all1 (As.at_ (hw.get (i := 2) rfl)).one (all1 (As.at_ (hw.get (i := 3) rfl)).one all0)))) rfl (Nat.le_of_ble_eq_true rfl) ?_
              refine L.y rfl (Y.assign rfl) ?_
              refine L.nil ?_
              refine E.thenN ?_
              refine W.ret ?_
              refine E.retR2 rfl (Rv.cellW (i := 0) ag111 sz111 rfl rfl rfl) (Rv.tmp rfl) (fun w1 hw => ?_)
              obtain rfl := Option.some.inj h
              exact ⟨_, _, rfl, ⟨_, _, rfl, rfl⟩, hw.sel [2, 3] (by decide) rfl⟩
set_option maxRecDepth 100000 in
set_option maxHeartbeats 8000000 in
theorem w75_pact_Stuck (a0 : TPact) (u0_0 : Value) (u0_1 : Value) (w : World) (r : ((List Int) × Int)) (h : m75_pact_Stuck a0 = some r) (hA0_0 : At w u0_0 1 (a0.Votes.map I)) (hA0_1 : At w u0_1 1 (a0.Parts.map I)) : Does Try.prog 75 [.agg #[.int .i64 a0.Lead, u0_0, u0_1]] w fun u m => ∃ v0, u = .tuple #[v0, .int .i64 r.2] ∧ m = [.sl v0 3 1 (r.1.map I)] := by
  rw [m75_pact_Stuck] at h
  refine body (n := 29) Try.func75 rfl rfl rfl (Cls.refl w) ?_
  refine W.seq ?_
  refine W.region ?_
  refine L.box rfl rfl ?_
  intro b1
  refine L.y rfl (Y.assign rfl) ?_
  refine L.y rfl (Y.assign rfl) ?_
  refine L.nil ?_
  refine E.thenN ?_
  refine W.seqJ (fun gs D => gs = [(1, pt b1 0)] ∧ D = Cls w [] [.obj b1 [.int .i64 a0.Lead, u0_0, u0_1] 111] ∧ m75_pact_Stuck_K1 a0 = some r) ?_ ?_
  ·
    refine W.seq ?_
    refine W.region ?_
    refine L.y rfl (Y.loadPW (i := 0) ag111 sz111 rfl rfl rfl) ?_
    obtain ⟨x9, e10, h⟩ := bind1S h
    refine L.y rfl (Y.does en77 rfl (fun w' hw => (w77_pact_Check a0 u0_0 u0_1 w' _ e10 (hA0_0.cls0 hw) (hA0_1.cls0 hw)).mono (fun _ _ h => h.1))) ?_
    refine L.y rfl (Y.assign rfl) ?_
    refine L.nil ?_
    refine E.thenN ?_
    refine W.seq ?_
    refine W.region ?_
    refine L.y rfl (Y.move rfl) ?_
    refine L.ite h rfl (Y.neq rfl rfl) (fun c11 h => ?_) (fun c11 h => ?_)
    ·
      refine L.nil ?_
      refine E.thenN ?_
      refine W.condT rfl ?_
      refine W.seq ?_
      refine W.region ?_
      refine L.y rfl (Y.move rfl) ?_
      refine L.y rfl (Y.assign rfl) ?_
      refine L.y rfl (Y.assign rfl) ?_
      refine L.nil ?_
      refine E.thenN ?_
      refine W.ret ?_
      refine E.KSR ?_
      refine E.ret2 rfl rfl rfl (fun w1 hw => ?_)
      obtain rfl := Option.some.inj h
      exact ⟨_, _, rfl, ⟨_, rfl, rfl⟩, (hw.nilSl 3 1).sel [0] (by decide) rfl⟩
    ·
      refine L.nil ?_
      refine E.thenN ?_
      refine W.condF rfl ?_
      refine W.skip ?_
      exact E.joinJ ⟨rfl, rfl, h⟩ ⟨rfl, trivial⟩ (fun _ hw => hw)
  ·
    rintro _ _ ⟨rfl, rfl, h⟩
    rw [m75_pact_Stuck_K1] at h
    refine W.seq ?_
    refine W.region ?_
    refine L.y rfl (Y.assign rfl) ?_
    refine L.nil ?_
    refine E.thenN ?_
    refine W.seqJ (fun gs D => ∃ (gv1 : Value) (gl2 : (List Int)), gs = [(5, gv1)] ∧ D = Cls w [] [.sl gv1 3 1 (gl2.map I)] ∧ m75_pact_Stuck_K2 gl2 = some r) ?_ ?_
    ·
      refine W.seq ?_
      refine W.region ?_
      refine L.y rfl (Y.fieldP fd111_2 rfl) ?_
      refine L.y rfl (Y.loadP (i := 0) ag24 rfl rfl rfl) ?_
      refine L.y rfl (Y.lenM (g := I) (l := a0.Parts) Try.underlying24 rfl (fun w' hw => hA0_1.cls0 hw)) ?_
      refine L.y rfl (Y.move rfl) ?_
      refine L.nil ?_
      refine E.thenN ?_
      refine W.block ?_
      refine W.nilSl 3 1 ?_
      refine W.loopJ (fun m gs D => ∃ (gv3 : Value) (gl4 : (List Int)) (gx5 : Int), gs = [(5, gv3), (14, u0_1), (15, .int .i64 (a0.Parts.length : Int)), (16, .int .i64 gx5)] ∧ D = Cls w [] [.sl gv3 3 1 (gl4.map I)] ∧ m75_pact_Stuck_L1 a0 m gl4 gx5 = some r) ⟨.slice none 0 0, [], 0, rfl, rfl, h⟩ ⟨rfl, rfl, rfl, rfl, trivial⟩ (fun _ hw => hw.sel [0] (by decide) rfl) ?_
      rintro m _ _ ⟨gv3, gl4, gx5, rfl, rfl, h⟩
      rcases m with _ | m
      · rw [m75_pact_Stuck_L1] at h; cases h
      rw [m75_pact_Stuck_L1] at h
      generalize hg1 : m75_pact_Stuck_L1 a0 m = go1 at h
      rw [m75_pact_Stuck_L1B] at h
      refine W.seq ?_
      refine W.region ?_
      refine L.ite h rfl (Y.lss rfl rfl) (fun c2 h => ?_) (fun c2 h => ?_)
      ·
        refine L.nil ?_
        refine E.thenN ?_
        refine W.seq ?_
        refine W.condT rfl ?_
        refine W.skip ?_
        refine E.thenN ?_
        refine W.seq ?_
        refine W.block ?_
        refine W.seq ?_
        refine W.region ?_
        refine L.y rfl (Y.move rfl) ?_
        refine L.m (V := fun _ => el u0_1 (gx5.toNat * 1)) h rfl (Y.indexM (g := I) (l := a0.Parts) Try.underlying24 sz3 rfl rfl (fun w' hw => hA0_1.cls0 hw)) (fun x3 ex3 h => ?_)
        refine L.y rfl (Y.loadE1 (u := .int .i64 x3) ag3 rfl (fun w' hw => hA0_1.cls0 hw) (idx_map ex3)) ?_
        refine L.y rfl (Y.assign rfl) ?_
        refine L.y rfl (Y.assign rfl) ?_
        refine L.nil ?_
        refine E.thenN ?_
        refine W.seq ?_
        refine W.seq ?_
        refine W.region ?_
        refine L.y rfl (Y.move rfl) ?_
        refine L.ite h rfl (Y.neq rfl rfl) (fun c4 h => ?_) (fun c4 h => ?_)
        ·
          refine L.nil ?_
          refine E.thenN ?_
          refine W.condT rfl ?_
          refine W.seq ?_
          refine W.region ?_
          refine L.y rfl (Y.assign rfl) ?_
          refine L.y rfl (Y.assign rfl) ?_
          refine L.nil ?_
          refine E.thenN ?_
          refine W.ret ?_
          refine E.thenR ?_
          refine E.blockR ?_
          refine E.thenR ?_
          refine E.KLR ?_
          refine E.blockR ?_
          refine E.KSR ?_
          refine E.ret2 rfl rfl rfl (fun w1 hw => ?_)
          obtain rfl := Option.some.inj h
          exact ⟨_, _, rfl, ⟨_, rfl, rfl⟩, (hw.nilSl 3 1).sel [0] (by decide) rfl⟩
        ·
          refine L.nil ?_
          refine E.thenN ?_
          refine W.condF rfl ?_
          refine W.skip ?_
          refine E.thenN ?_
          refine W.region ?_
          refine L.y rfl (Y.move rfl) ?_
          refine L.y rfl (Y.move rfl) ?_
          refine L.litOne rfl Try.underlying24 el3 rfl rfl ?_
          intro b5
          refine L.appM (i := 1) (g := I) (l := gl4) (more := [gx5]) h rfl Try.underlying24 el3 rfl rfl rfl (fun w hw => As.at_ (hw.get (i := 0) rfl)) (plain_ints _) rfl ?_
          intro v6 l7 el7 h
          refine L.y rfl (Y.assign rfl) ?_
          refine L.nil ?_
          refine E.blockN ?_
          refine E.thenN ?_
          refine W.region ?_
          refine L.m (V := fun x8 => .int .i64 x8) h rfl (Y.addM rfl rfl) (fun x8 ex8 h => ?_)
          refine L.y rfl (Y.move rfl) ?_
          refine L.nil ?_
          exact E.againJ ⟨v6, l7, x8, rfl, rfl, by rw [hg1]; exact h⟩ (Nat.lt_succ_self _) ⟨rfl, rfl, rfl, rfl, trivial⟩ (fun _ hw => hw.sel [0] (by decide) rfl)
      ·
        refine L.nil ?_
        refine E.thenN ?_
        refine W.seq ?_
        refine W.condF rfl ?_
        refine W.exit ?_
        refine E.thenX ?_
        refine E.KLX ?_
        refine E.blockX ?_
        exact E.joinJ ⟨gv3, gl4, rfl, rfl, h⟩ ⟨rfl, trivial⟩ (fun _ hw => hw)
    ·
      rintro _ _ ⟨gv1, gl2, rfl, rfl, h⟩
      rw [m75_pact_Stuck_K2] at h
      refine W.seq ?_
      refine W.region ?_
      refine L.y rfl (Y.move rfl) ?_
      refine L.y rfl (Y.assign rfl) ?_
      refine L.y rfl (Y.assign rfl) ?_
      refine L.nil ?_
      refine E.thenN ?_
      refine W.ret ?_
      refine E.ret2 rfl rfl rfl (fun w1 hw => ?_)
      obtain rfl := Option.some.inj h
      exact ⟨_, _, rfl, ⟨_, rfl, rfl⟩, hw⟩
set_option maxRecDepth 100000 in
set_option maxHeartbeats 8000000 in
theorem w71_slices_Equal_int (a0 : (List Int)) (a1 : (List Int)) (u0 : Value) (u1 : Value) (w : World) (r : Bool) (h : m71_slices_Equal_int a0 a1 = some r) (hA0 : At w u0 1 (a0.map I)) (hA1 : At w u1 1 (a1.map I)) : Does Try.prog 71 [u0, u1] w fun u m => u = .bool r ∧ m = [] := by
  rw [m71_slices_Equal_int] at h
  refine body (n := 26) Try.func71 rfl rfl rfl (Cls.refl w) ?_
  refine W.seq ?_
  refine W.region ?_
  refine L.y rfl (Y.assign rfl) ?_
  refine L.nil ?_
  refine E.thenN ?_
  refine W.seqJ (fun gs D => gs = [(0, u0), (1, u1)] ∧ D = Cls w [] [] ∧ m71_slices_Equal_int_K1 a0 a1 = some r) ?_ ?_
  ·
    refine W.seq ?_
    refine W.region ?_
    refine L.y rfl (Y.move rfl) ?_
    refine L.y rfl (Y.lenM (g := I) (l := a0) Try.underlying24 rfl (fun w' hw => hA0.cls0 hw)) ?_
    refine L.y rfl (Y.move rfl) ?_
    refine L.y rfl (Y.lenM (g := I) (l := a1) Try.underlying24 rfl (fun w' hw => hA1.cls0 hw)) ?_
    refine L.ite h rfl (Y.neq rfl rfl) (fun c6 h => ?_) (fun c6 h => ?_)
    ·
      refine L.nil ?_
      refine E.thenN ?_
      refine W.condT rfl ?_
      refine W.seq ?_
      refine W.region ?_
      refine L.y rfl (Y.assign rfl) ?_
      refine L.nil ?_
      refine E.thenN ?_
      refine W.ret ?_
      refine E.KSR ?_
      refine E.ret1 rfl rfl (fun w1 hw => ?_)
      obtain rfl := Option.some.inj h
      exact ⟨_, _, rfl, ⟨rfl, rfl⟩, hw⟩
    ·
      refine L.nil ?_
      refine E.thenN ?_
      refine W.condF rfl ?_
      refine W.skip ?_
      exact E.joinJ ⟨rfl, rfl, h⟩ ⟨rfl, rfl, trivial⟩ (fun _ hw => hw)
  ·
    rintro _ _ ⟨rfl, rfl, h⟩
    rw [m71_slices_Equal_int_K1] at h
    refine W.seqJ (fun gs D => gs = [] ∧ D = Cls w [] [] ∧ m71_slices_Equal_int_K2 = some r) ?_ ?_
    ·
      refine W.seq ?_
      refine W.region ?_
      refine L.y rfl (Y.move rfl) ?_
      refine L.y rfl (Y.lenM (g := I) (l := a0) Try.underlying24 rfl (fun w' hw => hA0.cls0 hw)) ?_
      refine L.y rfl (Y.move rfl) ?_
      refine L.nil ?_
      refine E.thenN ?_
      refine W.block ?_
      refine W.loopJ (fun m gs D => ∃ (gx1 : Int), gs = [(0, u0), (1, u1), (12, .int .i64 (a0.length : Int)), (13, .int .i64 gx1)] ∧ D = Cls w [] [] ∧ m71_slices_Equal_int_L1 a0 a1 m gx1 = some r) ⟨0, rfl, rfl, h⟩ ⟨rfl, rfl, rfl, rfl, trivial⟩ (fun _ hw => hw) ?_
      rintro m _ _ ⟨gx1, rfl, rfl, h⟩
      rcases m with _ | m
      · rw [m71_slices_Equal_int_L1] at h; cases h
      rw [m71_slices_Equal_int_L1] at h
      generalize hg1 : m71_slices_Equal_int_L1 a0 a1 m = go1 at h
      rw [m71_slices_Equal_int_L1B] at h
      refine W.seq ?_
      refine W.region ?_
      refine L.ite h rfl (Y.lss rfl rfl) (fun c1 h => ?_) (fun c1 h => ?_)
      ·
        refine L.nil ?_
        refine E.thenN ?_
        refine W.seq ?_
        refine W.condT rfl ?_
        refine W.skip ?_
        refine E.thenN ?_
        refine W.seq ?_
        refine W.block ?_
        refine W.seq ?_
        refine W.region ?_
        refine L.y rfl (Y.move rfl) ?_
        refine L.y rfl (Y.assign rfl) ?_
        refine L.nil ?_
        refine E.thenN ?_
        refine W.seq ?_
        refine W.quietC mixed (by kernel_rfl) (fun _ hw => hw.drew) (fun hC => ?_)
        refine U.y rfl (Y.move rfl) ?_
        refine U.y rfl (Y.move rfl) ?_
        refine U.m (V := fun _ => el u0 (gx1.toNat * 1)) h rfl (Y.indexM (g := I) (l := a0) Try.underlying24 sz3 rfl rfl (fun w' hw => hA0.cls0 hw)) (fun x2 ex2 h => ?_)
        refine U.y rfl (Y.loadE1 (u := .int .i64 x2) ag3 rfl (fun w' hw => hA0.cls0 hw) (idx_map ex2)) ?_
        refine U.y rfl (Y.move rfl) ?_
        refine U.y rfl (Y.move rfl) ?_
        refine U.m (V := fun _ => el u1 (gx1.toNat * 1)) h rfl (Y.indexM (g := I) (l := a1) Try.underlying24 sz3 rfl rfl (fun w' hw => hA1.cls0 hw)) (fun x3 ex3 h => ?_)
        refine U.y rfl (Y.loadE1 (u := .int .i64 x3) ag3 rfl (fun w' hw => hA1.cls0 hw) (idx_map ex3)) ?_
        refine U.ite h rfl (Y.neq rfl rfl) (fun c4 h => ?_) (fun c4 h => ?_)
        ·
          refine U.nil ?_
          refine E.thenN ?_
          refine W.condT rfl ?_
          refine W.seq ?_
          refine W.region ?_
          refine L.y rfl (Y.assign rfl) ?_
          refine L.nil ?_
          refine E.thenN ?_
          refine W.ret ?_
          refine E.blockR ?_
          refine E.thenR ?_
          refine E.KLR ?_
          refine E.blockR ?_
          refine E.KSR ?_
          refine E.ret1 rfl rfl (fun w1 hw => ?_)
          obtain rfl := Option.some.inj h
          exact ⟨_, _, rfl, ⟨rfl, rfl⟩, hw⟩
        ·
          refine U.nil ?_
          refine E.thenN ?_
          refine W.condF rfl ?_
          refine W.skip ?_
          refine E.blockN ?_
          refine E.thenN ?_
          refine W.region ?_
          refine L.m (V := fun x5 => .int .i64 x5) h rfl (Y.addM rfl rfl) (fun x5 ex5 h => ?_)
          refine L.y rfl (Y.move rfl) ?_
          refine L.nil ?_
          exact E.againJ ⟨x5, rfl, rfl, by rw [hg1]; exact h⟩ (Nat.lt_succ_self _) ⟨rfl, rfl, rfl, rfl, trivial⟩ (fun _ hw => hw)
      ·
        refine L.nil ?_
        refine E.thenN ?_
        refine W.seq ?_
        refine W.condF rfl ?_
        refine W.exit ?_
        refine E.thenX ?_
        refine E.KLX ?_
        refine E.blockX ?_
        exact E.joinJ ⟨rfl, rfl, h⟩ trivial (fun _ hw => hw)
    ·
      rintro _ _ ⟨rfl, rfl, h⟩
      rw [m71_slices_Equal_int_K2] at h
      refine W.seq ?_
      refine W.region ?_
      refine L.y rfl (Y.assign rfl) ?_
      refine L.nil ?_
      refine E.thenN ?_
      refine W.ret ?_
      refine E.ret1 rfl rfl (fun w1 hw => ?_)
      obtain rfl := Option.some.inj h
      exact ⟨_, _, rfl, ⟨rfl, rfl⟩, hw⟩
set_option maxRecDepth 100000 in
set_option maxHeartbeats 8000000 in
theorem w76_quirref_SamePact (a0 : TPact) (a1 : TPact) (u0_0 : Value) (u0_1 : Value) (u1_2 : Value) (u1_3 : Value) (w : World) (r : Bool) (h : m76_quirref_SamePact a0 a1 = some r) (hA0_0 : At w u0_0 1 (a0.Votes.map I)) (hA0_1 : At w u0_1 1 (a0.Parts.map I)) (hA1_2 : At w u1_2 1 (a1.Votes.map I)) (hA1_3 : At w u1_3 1 (a1.Parts.map I)) : Does Try.prog 76 [.agg #[.int .i64 a0.Lead, u0_0, u0_1], .agg #[.int .i64 a1.Lead, u1_2, u1_3]] w fun u m => u = .bool r ∧ m = [] := by
  rw [m76_quirref_SamePact] at h
  refine body (n := 24) Try.func76 rfl rfl rfl (Cls.refl w) ?_
  refine W.seq ?_
  refine W.region ?_
  refine L.box rfl rfl ?_
  intro b1
  refine L.box rfl rfl ?_
  intro b2
  refine L.y rfl (Y.assign rfl) ?_
  refine L.nil ?_
  refine E.thenN ?_
  refine W.seq ?_
  refine W.region ?_
  refine L.cutJ 12 (fun gs D => ∃ (gb1 : Bool), gs = [(2, pt b1 0), (3, pt b2 0), (16, .bool gb1)] ∧ D = Cls w [] [.obj b2 [.int .i64 a1.Lead, u1_2, u1_3] 111, .obj b1 [.int .i64 a0.Lead, u0_0, u0_1] 111] ∧ m76_quirref_SamePact_K1 a0 a1 gb1 = some r) ?_ ?_
  ·
    refine L.y rfl (Y.fieldP fd111_0 rfl) ?_
    refine L.y rfl (Y.loadP (i := 1) ag3 rfl rfl rfl) ?_
    refine L.y rfl (Y.fieldP fd111_0 rfl) ?_
    refine L.y rfl (Y.loadP (i := 0) ag3 rfl rfl rfl) ?_
    refine L.ite h rfl (Y.eql rfl rfl) (fun c5 h => ?_) (fun c5 h => ?_)
    ·
      refine L.y rfl (Y.move rfl) ?_
      refine L.take rfl ?_
      refine L.y rfl (Y.fieldP fd111_1 rfl) ?_
      refine L.take rfl ?_
      refine L.y rfl (Y.loadP (i := 1) ag24 rfl rfl rfl) ?_
      refine L.take rfl ?_
      refine L.y rfl (Y.fieldP fd111_1 rfl) ?_
      refine L.take rfl ?_
      refine L.y rfl (Y.loadP (i := 0) ag24 rfl rfl rfl) ?_
      refine L.take rfl ?_
      obtain ⟨b6, e7, h⟩ := bind1S h
      refine L.y rfl (Y.does en71 rfl (fun w' hw => (w71_slices_Equal_int a0.Votes a1.Votes u0_0 u1_2 w' _ e7 (hA0_0.cls0 hw) (hA1_2.cls0 hw)).mono (fun _ _ h => h.1))) ?_
      rcases b6 with _ | _
      ·
        replace h := iteF h
        refine L.y rfl (Y.pickT rfl rfl) ?_
        refine L.nil ?_
        exact E.joinJ ⟨false, rfl, rfl, h⟩ ⟨rfl, rfl, rfl, trivial⟩ (fun _ hw => hw)
      ·
        replace h := iteT h
        refine L.y rfl (Y.pickT rfl rfl) ?_
        refine L.nil ?_
        exact E.joinJ ⟨true, rfl, rfl, h⟩ ⟨rfl, rfl, rfl, trivial⟩ (fun _ hw => hw)
    ·
      refine L.y rfl (Y.move rfl) ?_
      refine L.pass rfl rfl (by nofun) ?_
      refine L.pass rfl rfl (by nofun) ?_
      refine L.pass rfl rfl (by nofun) ?_
      refine L.pass rfl rfl (by nofun) ?_
      refine L.pass rfl rfl (by nofun) ?_
      refine L.y rfl (Y.pickF rfl rfl) ?_
      refine L.nil ?_
      exact E.joinJ ⟨false, rfl, rfl, h⟩ ⟨rfl, rfl, rfl, trivial⟩ (fun _ hw => hw)
  ·
    rintro _ _ ⟨gb1, rfl, rfl, h⟩
    rw [m76_quirref_SamePact_K1] at h
    rcases gb1 with _ | _
    ·
      replace h := iteF h
      refine L.y rfl (Y.move rfl) ?_
      refine L.pass rfl rfl (by nofun) ?_
      refine L.pass rfl rfl (by nofun) ?_
      refine L.pass rfl rfl (by nofun) ?_
      refine L.pass rfl rfl (by nofun) ?_
      refine L.pass rfl rfl (by nofun) ?_
      refine L.y rfl (Y.pickF rfl rfl) ?_
      refine L.y rfl (Y.assign rfl) ?_
      refine L.nil ?_
      refine E.thenN ?_
      refine W.ret ?_
      refine E.ret1 rfl rfl (fun w1 hw => ?_)
      obtain rfl := Option.some.inj h
      exact ⟨_, _, rfl, ⟨rfl, rfl⟩, hw.sel [] (by decide) rfl⟩
    ·
      replace h := iteT h
      refine L.y rfl (Y.move rfl) ?_
      refine L.take rfl ?_
      refine L.y rfl (Y.fieldP fd111_2 rfl) ?_
      refine L.take rfl ?_
      refine L.y rfl (Y.loadP (i := 1) ag24 rfl rfl rfl) ?_
      refine L.take rfl ?_
      refine L.y rfl (Y.fieldP fd111_2 rfl) ?_
      refine L.take rfl ?_
      refine L.y rfl (Y.loadP (i := 0) ag24 rfl rfl rfl) ?_
      refine L.take rfl ?_
      obtain ⟨b3, e4, h⟩ := bind1S h
      refine L.y rfl (Y.does en71 rfl (fun w' hw => (w71_slices_Equal_int a0.Parts a1.Parts u0_1 u1_3 w' _ e4 (hA0_1.cls0 hw) (hA1_3.cls0 hw)).mono (fun _ _ h => h.1))) ?_
      refine L.y rfl (Y.pickT rfl rfl) ?_
      refine L.y rfl (Y.assign rfl) ?_
      refine L.nil ?_
      refine E.thenN ?_
      refine W.ret ?_
      refine E.ret1 rfl rfl (fun w1 hw => ?_)
      obtain rfl := Option.some.inj h
      exact ⟨_, _, rfl, ⟨rfl, rfl⟩, hw.sel [] (by decide) rfl⟩
set_option maxRecDepth 100000 in
set_option maxHeartbeats 8000000 in
theorem w79_quirlaw_PactSays_1 (a0 : Int) (w : World) (r : Bool) (h : m79_quirlaw_PactSays_1 a0 = some r) : Does Try.prog 79 [.int .i64 a0] w fun u m => u = .bool r ∧ m = [] := by
  rw [m79_quirlaw_PactSays_1] at h
  refine body (n := 5) Try.func79 rfl rfl rfl (Cls.refl w) ?_
  refine W.seq ?_
  refine W.region ?_
  refine L.y rfl (Y.assign rfl) ?_
  refine L.nil ?_
  refine E.thenN ?_
  refine W.seq ?_
  refine W.region ?_
  refine L.y rfl (Y.move rfl) ?_
  refine L.y rfl (Y.neq rfl rfl) ?_
  refine L.y rfl (Y.assign rfl) ?_
  refine L.nil ?_
  refine E.thenN ?_
  refine W.ret ?_
  refine E.ret1 rfl rfl (fun w1 hw => ?_)
  obtain rfl := Option.some.inj h
  exact ⟨_, _, rfl, ⟨rfl, rfl⟩, hw⟩
set_option maxRecDepth 100000 in
set_option maxHeartbeats 8000000 in
theorem w135_slices_Min_int (a0 : (List Int)) (u0 : Value) (w : World) (r : Int) (h : m135_slices_Min_int a0 = some r) (hA0 : At w u0 1 (a0.map I)) : Does Try.prog 135 [u0] w fun u m => u = .int .i64 r ∧ m = [] := by
  rw [m135_slices_Min_int] at h
  refine body (n := 25) Try.func135 rfl rfl rfl (Cls.refl w) ?_
  refine W.seq ?_
  refine W.region ?_
  refine L.y rfl (Y.assign rfl) ?_
  refine L.nil ?_
  refine E.thenN ?_
  refine W.seqJ (fun gs D => gs = [(0, u0)] ∧ D = Cls w [] [] ∧ m135_slices_Min_int_K1 a0 = some r) ?_ ?_
  ·
    refine W.seq ?_
    refine W.region ?_
    refine L.y rfl (Y.move rfl) ?_
    refine L.y rfl (Y.lenM (g := I) (l := a0) Try.underlying24 rfl (fun w' hw => hA0.cls0 hw)) ?_
    refine L.ite h rfl (Y.lss rfl rfl) (fun c5 h => ?_) (fun c5 h => ?_)
    ·
      refine L.nil ?_
      refine E.thenN ?_
      refine W.condT rfl ?_
      refine W.region ?_
      cases h
    ·
      refine L.nil ?_
      refine E.thenN ?_
      refine W.condF rfl ?_
      refine W.skip ?_
      exact E.joinJ ⟨rfl, rfl, h⟩ ⟨rfl, trivial⟩ (fun _ hw => hw)
  ·
    rintro _ _ ⟨rfl, rfl, h⟩
    rw [m135_slices_Min_int_K1] at h
    refine W.seq ?_
    refine W.region ?_
    refine L.y rfl (Y.move rfl) ?_
    refine L.m (V := fun _ => el u0 ((0 : Int).toNat * 1)) h rfl (Y.indexM (g := I) (l := a0) Try.underlying24 sz3 rfl rfl (fun w' hw => hA0.cls0 hw)) (fun x1 ex1 h => ?_)
    refine L.y rfl (Y.loadE1 (u := .int .i64 x1) ag3 rfl (fun w' hw => hA0.cls0 hw) (idx_map ex1)) ?_
    refine L.y rfl (Y.assign rfl) ?_
    refine L.nil ?_
    refine E.thenN ?_
    refine W.seqJ (fun gs D => ∃ (gx1 : Int), gs = [(3, .int .i64 gx1)] ∧ D = Cls w [] [] ∧ m135_slices_Min_int_K2 gx1 = some r) ?_ ?_
    ·
      refine W.seq ?_
      refine W.region ?_
      refine L.y rfl (Y.assign rfl) ?_
      refine L.nil ?_
      refine E.thenN ?_
      refine W.block ?_
      refine W.loopJ (fun m gs D => ∃ (gx2 : Int) (gx3 : Int), gs = [(0, u0), (3, .int .i64 gx2), (4, .int .i64 gx3)] ∧ D = Cls w [] [] ∧ m135_slices_Min_int_L1 a0 m gx2 gx3 = some r) ⟨x1, 1, rfl, rfl, h⟩ ⟨rfl, rfl, rfl, trivial⟩ (fun _ hw => hw) ?_
      rintro m _ _ ⟨gx2, gx3, rfl, rfl, h⟩
      rcases m with _ | m
      · rw [m135_slices_Min_int_L1] at h; cases h
      rw [m135_slices_Min_int_L1] at h
      generalize hg1 : m135_slices_Min_int_L1 a0 m = go1 at h
      rw [m135_slices_Min_int_L1B] at h
      refine W.seq ?_
      refine W.seq ?_
      refine W.region ?_
      refine L.y rfl (Y.move rfl) ?_
      refine L.y rfl (Y.move rfl) ?_
      refine L.y rfl (Y.lenM (g := I) (l := a0) Try.underlying24 rfl (fun w' hw => hA0.cls0 hw)) ?_
      refine L.ite h rfl (Y.lss rfl rfl) (fun c2 h => ?_) (fun c2 h => ?_)
      ·
        refine L.nil ?_
        refine E.thenN ?_
        refine W.condT rfl ?_
        refine W.skip ?_
        refine E.thenN ?_
        refine W.seq ?_
        refine W.block ?_
        refine W.region ?_
        refine L.y rfl (Y.move rfl) ?_
        refine L.y rfl (Y.move rfl) ?_
        refine L.y rfl (Y.move rfl) ?_
        refine L.m (V := fun _ => el u0 (gx3.toNat * 1)) h rfl (Y.indexM (g := I) (l := a0) Try.underlying24 sz3 rfl rfl (fun w' hw => hA0.cls0 hw)) (fun x3 ex3 h => ?_)
        refine L.y rfl (Y.loadE1 (u := .int .i64 x3) ag3 rfl (fun w' hw => hA0.cls0 hw) (idx_map ex3)) ?_
        refine L.y rfl (Y.min2 rfl rfl) ?_
        refine L.y rfl (Y.assign rfl) ?_
        refine L.nil ?_
        refine E.blockN ?_
        refine E.thenN ?_
        refine W.region ?_
        refine L.y rfl (Y.move rfl) ?_
        refine L.m (V := fun x4 => .int .i64 x4) h rfl (Y.addM rfl rfl) (fun x4 ex4 h => ?_)
        refine L.y rfl (Y.assign rfl) ?_
        refine L.nil ?_
        exact E.againJ ⟨(min gx2 x3), x4, rfl, rfl, by rw [hg1]; exact h⟩ (Nat.lt_succ_self _) ⟨rfl, rfl, rfl, trivial⟩ (fun _ hw => hw)
      ·
        refine L.nil ?_
        refine E.thenN ?_
        refine W.condF rfl ?_
        refine W.exit ?_
        refine E.thenX ?_
        refine E.KLX ?_
        refine E.blockX ?_
        exact E.joinJ ⟨gx2, rfl, rfl, h⟩ ⟨rfl, trivial⟩ (fun _ hw => hw)
    ·
      rintro _ _ ⟨gx1, rfl, rfl, h⟩
      rw [m135_slices_Min_int_K2] at h
      refine W.seq ?_
      refine W.region ?_
      refine L.y rfl (Y.move rfl) ?_
      refine L.y rfl (Y.assign rfl) ?_
      refine L.nil ?_
      refine E.thenN ?_
      refine W.ret ?_
      refine E.ret1 rfl rfl (fun w1 hw => ?_)
      obtain rfl := Option.some.inj h
      exact ⟨_, _, rfl, ⟨rfl, rfl⟩, hw⟩
end Go.Proofs.Ytfmgjigdebofaaa
