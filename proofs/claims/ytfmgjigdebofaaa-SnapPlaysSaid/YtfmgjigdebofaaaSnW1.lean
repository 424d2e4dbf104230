/-
  Walks, printed by a program of mine.
  Conditions: none.
-/
import Derived.Test.YtfmgjigdebofaaaSnM
import Derived.Test.YtfmgjigdebofaaaChecked
import Derived.KernelRfl
namespace Go.Proofs.Ytfmgjigdebofaaa
open Go.S
set_option linter.unusedVariables false
set_option linter.unusedSimpArgs false
theorem mixed : Try.prog.follows .mixedOrders = true := by kernel_rfl
theorem ag3 : aggB Try.prog 3 false = true := by kernel_rfl
theorem ag4 : aggB Try.prog 4 false = true := by kernel_rfl
theorem ag24 : aggB Try.prog 24 false = true := by kernel_rfl
theorem ag152 : aggB Try.prog 152 true = true := by kernel_rfl
theorem ag164 : aggB Try.prog 164 true = true := by kernel_rfl
theorem ag203 : aggB Try.prog 203 false = true := by kernel_rfl
theorem ag227 : aggB Try.prog 227 false = true := by kernel_rfl
theorem ag235 : aggB Try.prog 235 true = true := by kernel_rfl
theorem el3 : elemB Try.prog 3 1 8 = true := by kernel_rfl
theorem el152 : elemB Try.prog 152 2 16 = true := by kernel_rfl
theorem el235 : elemB Try.prog 235 2 16 = true := by kernel_rfl
theorem en51 : entB Try.prog 51 = true := by kernel_rfl
theorem en78 : entB Try.prog 78 = true := by kernel_rfl
theorem en95 : entB Try.prog 95 = true := by kernel_rfl
theorem en96 : entB Try.prog 96 = true := by kernel_rfl
theorem en97 : entB Try.prog 97 = true := by kernel_rfl
theorem en98 : entB Try.prog 98 = true := by kernel_rfl
theorem en107 : entB Try.prog 107 = true := by kernel_rfl
theorem en121 : entB Try.prog 121 = true := by kernel_rfl
theorem en133 : entB Try.prog 133 = true := by kernel_rfl
theorem en134 : entB Try.prog 134 = true := by kernel_rfl
theorem en139 : entB Try.prog 139 = true := by kernel_rfl
theorem en140 : entB Try.prog 140 = true := by kernel_rfl
theorem en141 : entB Try.prog 141 = true := by kernel_rfl
theorem en142 : entB Try.prog 142 = true := by kernel_rfl
theorem en143 : entB Try.prog 143 = true := by kernel_rfl
theorem en148 : entB Try.prog 148 = true := by kernel_rfl
theorem en153 : entB Try.prog 153 = true := by kernel_rfl
theorem en154 : entB Try.prog 154 = true := by kernel_rfl
theorem en155 : entB Try.prog 155 = true := by kernel_rfl
theorem en156 : entB Try.prog 156 = true := by kernel_rfl
theorem en157 : entB Try.prog 157 = true := by kernel_rfl
theorem en158 : entB Try.prog 158 = true := by kernel_rfl
theorem en159 : entB Try.prog 159 = true := by kernel_rfl
theorem en160 : entB Try.prog 160 = true := by kernel_rfl
theorem en161 : entB Try.prog 161 = true := by kernel_rfl
theorem en163 : entB Try.prog 163 = true := by kernel_rfl
theorem en164 : entB Try.prog 164 = true := by kernel_rfl
theorem en165 : entB Try.prog 165 = true := by kernel_rfl
theorem en166 : entB Try.prog 166 = true := by kernel_rfl
theorem en167 : entB Try.prog 167 = true := by kernel_rfl
theorem fd152_0 : fieldB Try.prog 152 0 0 = true := by kernel_rfl
theorem fd152_1 : fieldB Try.prog 152 1 1 = true := by kernel_rfl
theorem fd164_0 : fieldB Try.prog 164 0 0 = true := by kernel_rfl
theorem fd164_1 : fieldB Try.prog 164 1 1 = true := by kernel_rfl
theorem fd164_2 : fieldB Try.prog 164 2 2 = true := by kernel_rfl
theorem fd201_0 : fieldB Try.prog 201 0 0 = true := by kernel_rfl
theorem fd201_1 : fieldB Try.prog 201 1 1 = true := by kernel_rfl
theorem fd201_2 : fieldB Try.prog 201 2 2 = true := by kernel_rfl
theorem fd206_0 : fieldB Try.prog 206 0 0 = true := by kernel_rfl
theorem fd206_1 : fieldB Try.prog 206 1 36 = true := by kernel_rfl
theorem fd206_2 : fieldB Try.prog 206 2 37 = true := by kernel_rfl
theorem fd209_0 : fieldB Try.prog 209 0 0 = true := by kernel_rfl
theorem fd209_1 : fieldB Try.prog 209 1 1 = true := by kernel_rfl
theorem fd209_2 : fieldB Try.prog 209 2 2 = true := by kernel_rfl
theorem fd209_3 : fieldB Try.prog 209 3 3 = true := by kernel_rfl
theorem fd209_4 : fieldB Try.prog 209 4 4 = true := by kernel_rfl
theorem fd209_5 : fieldB Try.prog 209 5 5 = true := by kernel_rfl
theorem fd212_0 : fieldB Try.prog 212 0 0 = true := by kernel_rfl
theorem fd212_1 : fieldB Try.prog 212 1 72 = true := by kernel_rfl
theorem fd212_2 : fieldB Try.prog 212 2 73 = true := by kernel_rfl
theorem fd235_0 : fieldB Try.prog 235 0 0 = true := by kernel_rfl
theorem fd235_1 : fieldB Try.prog 235 1 1 = true := by kernel_rfl
theorem sz3 : szB Try.prog 3 1 = true := by kernel_rfl
theorem sz4 : szB Try.prog 4 1 = true := by kernel_rfl
theorem sz24 : szB Try.prog 24 1 = true := by kernel_rfl
theorem sz152 : szB Try.prog 152 2 = true := by kernel_rfl
theorem sz164 : szB Try.prog 164 3 = true := by kernel_rfl
theorem sz201 : szB Try.prog 201 3 = true := by kernel_rfl
theorem sz203 : szB Try.prog 203 1 = true := by kernel_rfl
theorem sz209 : szB Try.prog 209 6 = true := by kernel_rfl
theorem sz227 : szB Try.prog 227 1 = true := by kernel_rfl
theorem sz235 : szB Try.prog 235 2 = true := by kernel_rfl
theorem ze152 : zeroB Try.prog 152 = some [.bool false, .int .i64 0] := by kernel_rfl
theorem ze164 : zeroB Try.prog 164 = some [.int .i64 0, .int .i64 0, .int .i64 0] := by kernel_rfl
theorem ze167 : zeroB Try.prog 167 = some (List.replicate 12 (.bool false)) := by kernel_rfl
theorem ze206 : zeroB Try.prog 206 = some [.bool false, .int .i64 0, .slice none 0 0, .bool false, .int .i64 0, .slice none 0 0, .bool false, .int .i64 0, .slice none 0 0, .bool false, .int .i64 0, .slice none 0 0, .bool false, .int .i64 0, .slice none 0 0, .bool false, .int .i64 0, .slice none 0 0, .bool false, .int .i64 0, .slice none 0 0, .bool false, .int .i64 0, .slice none 0 0, .bool false, .int .i64 0, .slice none 0 0, .bool false, .int .i64 0, .slice none 0 0, .bool false, .int .i64 0, .slice none 0 0, .bool false, .int .i64 0, .slice none 0 0, .int .i64 0, .slice none 0 0, .slice none 0 0, .slice none 0 0, .slice none 0 0, .slice none 0 0, .slice none 0 0, .slice none 0 0, .slice none 0 0, .slice none 0 0, .slice none 0 0, .slice none 0 0, .slice none 0 0, .slice none 0 0, .slice none 0 0, .slice none 0 0, .slice none 0 0, .slice none 0 0, .slice none 0 0, .slice none 0 0, .slice none 0 0] := by kernel_rfl
theorem ze212 : zeroB Try.prog 212 = some [.bool false, .bool false, .int .i64 0, .int .i64 0, .slice none 0 0, .slice none 0 0, .bool false, .bool false, .int .i64 0, .int .i64 0, .slice none 0 0, .slice none 0 0, .bool false, .bool false, .int .i64 0, .int .i64 0, .slice none 0 0, .slice none 0 0, .bool false, .bool false, .int .i64 0, .int .i64 0, .slice none 0 0, .slice none 0 0, .bool false, .bool false, .int .i64 0, .int .i64 0, .slice none 0 0, .slice none 0 0, .bool false, .bool false, .int .i64 0, .int .i64 0, .slice none 0 0, .slice none 0 0, .bool false, .bool false, .int .i64 0, .int .i64 0, .slice none 0 0, .slice none 0 0, .bool false, .bool false, .int .i64 0, .int .i64 0, .slice none 0 0, .slice none 0 0, .bool false, .bool false, .int .i64 0, .int .i64 0, .slice none 0 0, .slice none 0 0, .bool false, .bool false, .int .i64 0, .int .i64 0, .slice none 0 0, .slice none 0 0, .bool false, .bool false, .int .i64 0, .int .i64 0, .slice none 0 0, .slice none 0 0, .bool false, .bool false, .int .i64 0, .int .i64 0, .slice none 0 0, .slice none 0 0, .int .i64 0, .slice none 0 0, .slice none 0 0, .slice none 0 0, .slice none 0 0, .slice none 0 0, .slice none 0 0, .slice none 0 0, .slice none 0 0, .slice none 0 0, .slice none 0 0, .slice none 0 0, .slice none 0 0, .slice none 0 0, .slice none 0 0, .slice none 0 0, .slice none 0 0, .slice none 0 0, .slice none 0 0, .slice none 0 0, .slice none 0 0] := by kernel_rfl
theorem ze227 : zeroB Try.prog 227 = some [.pointer none] := by kernel_rfl
theorem ze235 : zeroB Try.prog 235 = some [.int .i64 0, .int .i64 0] := by kernel_rfl
theorem plain_TOp (l : List TOp) : Plain (l.map TOp.row) := by
  intro r hr u hu
  obtain ⟨x, _, rfl⟩ := List.mem_map.1 hr
  simp only [TOp.row, List.mem_cons, List.not_mem_nil, or_false] at hu
  rcases hu with rfl | rfl | rfl <;> rfl
theorem plain_Tversion (l : List Tversion) : Plain (l.map Tversion.row) := by
  intro r hr u hu
  obtain ⟨x, _, rfl⟩ := List.mem_map.1 hr
  simp only [Tversion.row, List.mem_cons, List.not_mem_nil, or_false] at hu
  rcases hu with rfl | rfl <;> rfl
theorem plain_TDid (l : List TDid) : Plain (l.map TDid.row) := by
  intro r hr u hu
  obtain ⟨x, _, rfl⟩ := List.mem_map.1 hr
  simp only [TDid.row, List.mem_cons, List.not_mem_nil, or_false] at hu
  rcases hu with rfl | rfl <;> rfl
theorem eg152 : Try.prog.eqGuardType Try.prog.depth 152 = false := by kernel_rfl
theorem sh152 (x : TDid) : shB Try.prog 5 152 x.row = true := by kernel_rfl
theorem inj152 (x y : TDid) (h : x.row = y.row) : x = y := by
  cases x; cases y
  simpa [TDid.row, st_inj] using h
theorem eg164 : Try.prog.eqGuardType Try.prog.depth 164 = false := by kernel_rfl
theorem sh164 (x : TOp) : shB Try.prog 5 164 x.row = true := by kernel_rfl
theorem inj164 (x y : TOp) (h : x.row = y.row) : x = y := by
  cases x; cases y
  simpa [TOp.row, st_inj] using h
set_option maxRecDepth 100000 in
set_option maxHeartbeats 8000000 in
theorem w107_run_Check (a0 : (List TOp)) (u0 : Value) (w : World) (r : Int) (h : m107_run_Check a0 = some r) (hA0 : At w u0 3 (a0.map TOp.row)) : Does Try.prog 107 [u0] w fun u m => u = .int .i64 r ∧ m = [] := by
  rw [m107_run_Check] at h
  refine body (n := 55) Try.func107 rfl rfl rfl (Cls.refl w) ?_
  refine W.seq (W.region (L.y rfl (Y.assign rfl) ?_))
  refine L.nil (E.thenN (W.seqJ (fun gs D => gs = [(0, u0)] ∧ D = Cls w [] [] ∧ m107_run_Check_K1 a0 = some r) ?_ ?_))
  ·
   refine W.seq (W.region (L.y rfl (Y.move rfl) ?_))
   refine L.y rfl (Y.lenM (g := TOp.row) (l := a0) Try.underlying71 rfl (fun w' hw => hA0.cls0 hw)) ?_
   refine L.ite h rfl (Y.gtr rfl rfl) (fun c20 h => ?_) (fun c20 h => ?_)
   ·
    refine L.nil (E.thenN (W.condT rfl ?_))
    refine W.seq (W.region (L.y rfl (Y.assign rfl) ?_))
    refine L.nil (E.thenN (W.ret (E.KSR (E.ret1 rfl rfl (fun w1 hw => ?_)))))
    obtain rfl := Option.some.inj h
    exact ⟨_, _, rfl, ⟨rfl, rfl⟩, hw⟩
   ·
    refine L.nil (E.thenN (W.condF rfl ?_))
    exact W.skip (E.joinJ ⟨rfl, rfl, h⟩ ⟨rfl, trivial⟩ (fun _ hw => hw))
  ·
   rintro _ _ ⟨rfl, rfl, h⟩
   rw [m107_run_Check_K1] at h
   refine W.seq (W.region (L.alloc rfl ze167 ?_))
   intro b1
   refine L.to (D := Cls w [] [.obj b1 (((List.replicate 12 (false : Bool)).map B).flatten) 167]) (fun _ hw => by first | exact hw | simpa [I, B, SR] using hw) ?_
   refine L.nil (E.thenN (W.seqJ (fun gs D => gs = [] ∧ D = Cls w [] [] ∧ m107_run_Check_K2 = some r) ?_ ?_))
   ·
    refine W.seq (W.region (L.y rfl (Y.move rfl) ?_))
    refine L.y rfl (Y.lenM (g := TOp.row) (l := a0) Try.underlying71 rfl (fun w' hw => hA0.cls0 hw)) ?_
    refine L.y rfl (Y.move rfl) ?_
    refine L.nil (E.thenN (W.block (W.loopJ (fun m gs D => ∃ (gx1 : Int) (gl2 : (List Bool)), gs = [(3, pt b1 0), (9, u0), (10, .int .i64 (a0.length : Int)), (11, .int .i64 gx1)] ∧ D = Cls w [] [.obj b1 ((gl2.map B).flatten) 167] ∧ m107_run_Check_L1 a0 m gx1 gl2 = some r) ⟨0, (List.replicate 12 (false : Bool)), rfl, rfl, h⟩ ⟨rfl, rfl, rfl, rfl, trivial⟩ (fun _ hw => hw) ?_)))
    rintro m _ _ ⟨gx1, gl2, rfl, rfl, h⟩
    rcases m with _ | m
    · rw [m107_run_Check_L1] at h; cases h
    rw [m107_run_Check_L1] at h
    generalize hg1 : m107_run_Check_L1 a0 m = go1 at h
    rw [m107_run_Check_L1B] at h
    refine W.seq (W.region (L.ite h rfl (Y.lss rfl rfl) (fun c2 h => ?_) (fun c2 h => ?_)))
    ·
     refine L.nil (E.thenN (W.seq (W.condT rfl ?_)))
     refine W.skip (E.thenN (W.seqJ (fun gs D => ∃ (gl3 : (List Bool)), gs = [(3, pt b1 0), (9, u0), (10, .int .i64 (a0.length : Int)), (11, .int .i64 gx1)] ∧ D = Cls w [] [.obj b1 ((gl3.map B).flatten) 167] ∧ m107_run_Check_K3 gx1 go1 gl3 = some r) ?_ ?_))
     ·
      refine W.block (W.seq (W.region (L.m (V := fun _ => el u0 (gx1.toNat * 3)) h rfl (Y.indexM (g := TOp.row) (l := a0) Try.underlying71 sz164 rfl rfl (fun w' hw => hA0.cls0 hw)) (fun x4 ex4 h => ?_))))
      refine L.y rfl (Y.loadEN (r := [.int .i64 x4.Tx, .int .i64 x4.Kind, .int .i64 x4.Item]) ag164 sz164 rfl (fun w' hw => hA0.cls0 hw) (idx_map ex4) rfl) ?_
      refine L.alloc rfl ze164 ?_
      intro b5
      refine L.store (i := 0) sz164 rfl rfl rfl rfl (by simp [Value.oneCell', Value.cells, st, pt]) rfl (Nat.le_of_ble_eq_true rfl) ?_
      refine L.nil (E.thenN (W.seqJ (fun gs D => gs = [(3, pt b1 0), (5, pt b5 0), (9, u0), (10, .int .i64 (a0.length : Int)), (11, .int .i64 gx1)] ∧ D = Cls w [] [.obj b5 [.int .i64 x4.Tx, .int .i64 x4.Kind, .int .i64 x4.Item] 164, .obj b1 ((gl2.map B).flatten) 167] ∧ m107_run_Check_K4 x4 gl2 gx1 go1 = some r) ?_ ?_))
      ·
       refine W.seq (W.region (L.cutJ 8 (fun gs D => ∃ (gb5 : Bool), gs = [(3, pt b1 0), (5, pt b5 0), (9, u0), (10, .int .i64 (a0.length : Int)), (11, .int .i64 gx1), (22, .bool gb5)] ∧ D = Cls w [] [.obj b5 [.int .i64 x4.Tx, .int .i64 x4.Kind, .int .i64 x4.Item] 164, .obj b1 ((gl2.map B).flatten) 167] ∧ m107_run_Check_K7 x4 gl2 gx1 go1 gb5 = some r) ?_ ?_))
       ·
        refine L.y rfl (Y.fieldP fd164_0 rfl) ?_
        refine L.y rfl (Y.loadP (i := 0) ag3 rfl rfl rfl) ?_
        refine L.ite h rfl (Y.lss rfl rfl) (fun c18 h => ?_) (fun c18 h => ?_)
        ·
         refine L.y rfl (Y.move rfl) ?_
         refine L.pass rfl rfl (by nofun) ?_
         refine L.pass rfl rfl (by nofun) ?_
         refine L.pass rfl rfl (by nofun) ?_
         refine L.y rfl (Y.pickT rfl rfl) ?_
         exact L.nil (E.joinJ ⟨true, rfl, rfl, h⟩ ⟨rfl, rfl, rfl, rfl, rfl, rfl, trivial⟩ (fun _ hw => hw))
        ·
         refine L.y rfl (Y.move rfl) ?_
         refine L.take rfl (L.y rfl (Y.fieldP fd164_0 rfl) ?_)
         refine L.take rfl (L.y rfl (Y.loadP (i := 0) ag3 rfl rfl rfl) ?_)
         refine L.take rfl (L.ite h rfl (Y.geq rfl rfl) (fun c19 h => ?_) (fun c19 h => ?_))
         ·
          refine L.y rfl (Y.pickF rfl rfl) ?_
          exact L.nil (E.joinJ ⟨true, rfl, rfl, h⟩ ⟨rfl, rfl, rfl, rfl, rfl, rfl, trivial⟩ (fun _ hw => hw))
         ·
          refine L.y rfl (Y.pickF rfl rfl) ?_
          exact L.nil (E.joinJ ⟨false, rfl, rfl, h⟩ ⟨rfl, rfl, rfl, rfl, rfl, rfl, trivial⟩ (fun _ hw => hw))
       ·
        rintro _ _ ⟨gb5, rfl, rfl, h⟩
        rw [m107_run_Check_K7] at h
        rcases gb5 with _ | _
        ·
         replace h := iteF h
         refine L.y rfl (Y.move rfl) ?_
         refine L.take rfl (L.y rfl (Y.fieldP fd164_2 rfl) ?_)
         refine L.take rfl (L.y rfl (Y.loadP (i := 0) ag3 rfl rfl rfl) ?_)
         refine L.take rfl (L.ite h rfl (Y.lss rfl rfl) (fun c16 h => ?_) (fun c16 h => ?_))
         ·
          refine L.y rfl (Y.pickF rfl rfl) ?_
          refine L.y rfl (Y.move rfl) ?_
          refine L.pass rfl rfl (by nofun) ?_
          refine L.pass rfl rfl (by nofun) ?_
          refine L.pass rfl rfl (by nofun) ?_
          refine L.y rfl (Y.pickT rfl rfl) ?_
          refine L.nil (E.thenN (W.condT rfl ?_))
          refine W.seq (W.region (L.y rfl (Y.assign rfl) ?_))
          refine L.nil (E.thenN (W.ret (E.KSR (E.blockR (E.KSR (E.KLR (E.blockR (E.KSR (E.ret1 rfl rfl (fun w1 hw => ?_))))))))))
          obtain rfl := Option.some.inj h
          exact ⟨_, _, rfl, ⟨rfl, rfl⟩, hw.sel [] (by decide) rfl⟩
         ·
          refine L.y rfl (Y.pickF rfl rfl) ?_
          refine L.y rfl (Y.move rfl) ?_
          refine L.take rfl (L.y rfl (Y.fieldP fd164_2 rfl) ?_)
          refine L.take rfl (L.y rfl (Y.loadP (i := 0) ag3 rfl rfl rfl) ?_)
          refine L.take rfl (L.ite h rfl (Y.geq rfl rfl) (fun c17 h => ?_) (fun c17 h => ?_))
          ·
           refine L.y rfl (Y.pickF rfl rfl) ?_
           refine L.nil (E.thenN (W.condT rfl ?_))
           refine W.seq (W.region (L.y rfl (Y.assign rfl) ?_))
           refine L.nil (E.thenN (W.ret (E.KSR (E.blockR (E.KSR (E.KLR (E.blockR (E.KSR (E.ret1 rfl rfl (fun w1 hw => ?_))))))))))
           obtain rfl := Option.some.inj h
           exact ⟨_, _, rfl, ⟨rfl, rfl⟩, hw.sel [] (by decide) rfl⟩
          ·
           refine L.y rfl (Y.pickF rfl rfl) ?_
           refine L.nil (E.thenN (W.condF rfl ?_))
           exact W.skip (E.joinJ ⟨rfl, rfl, h⟩ ⟨rfl, rfl, rfl, rfl, rfl, trivial⟩ (fun _ hw => hw))
        ·
         replace h := iteT h
         refine L.y rfl (Y.move rfl) ?_
         refine L.pass rfl rfl (by nofun) ?_
         refine L.pass rfl rfl (by nofun) ?_
         refine L.pass rfl rfl (by nofun) ?_
         refine L.y rfl (Y.pickT rfl rfl) ?_
         refine L.y rfl (Y.move rfl) ?_
         refine L.pass rfl rfl (by nofun) ?_
         refine L.pass rfl rfl (by nofun) ?_
         refine L.pass rfl rfl (by nofun) ?_
         refine L.y rfl (Y.pickT rfl rfl) ?_
         refine L.nil (E.thenN (W.condT rfl ?_))
         refine W.seq (W.region (L.y rfl (Y.assign rfl) ?_))
         refine L.nil (E.thenN (W.ret (E.KSR (E.blockR (E.KSR (E.KLR (E.blockR (E.KSR (E.ret1 rfl rfl (fun w1 hw => ?_))))))))))
         obtain rfl := Option.some.inj h
         exact ⟨_, _, rfl, ⟨rfl, rfl⟩, hw.sel [] (by decide) rfl⟩
      ·
       rintro _ _ ⟨rfl, rfl, h⟩
       rw [m107_run_Check_K4] at h
       refine W.seqJ (fun gs D => gs = [(3, pt b1 0), (5, pt b5 0), (9, u0), (10, .int .i64 (a0.length : Int)), (11, .int .i64 gx1)] ∧ D = Cls w [] [.obj b5 [.int .i64 x4.Tx, .int .i64 x4.Kind, .int .i64 x4.Item] 164, .obj b1 ((gl2.map B).flatten) 167] ∧ m107_run_Check_K5 gl2 x4 gx1 go1 = some r) ?_ ?_
       ·
        refine W.seq (W.region (L.y rfl (Y.fieldP fd164_1 rfl) ?_))
        refine L.y rfl (Y.loadP (i := 0) ag3 rfl rfl rfl) ?_
        refine L.nil (E.thenN (W.block (W.seqJ (fun gs D => ∃ (gb4 : Bool), gs = [(3, pt b1 0), (5, pt b5 0), (9, u0), (10, .int .i64 (a0.length : Int)), (11, .int .i64 gx1), (34, .int .i64 x4.Kind), (35, .bool gb4)] ∧ D = Cls w [] [.obj b5 [.int .i64 x4.Tx, .int .i64 x4.Kind, .int .i64 x4.Item] 164, .obj b1 ((gl2.map B).flatten) 167] ∧ m107_run_Check_K6 gl2 x4 gx1 go1 gb4 = some r) ?_ ?_)))
        ·
         refine W.seq (W.region (L.ite h rfl (Y.eql rfl rfl) (fun c14 h => ?_) (fun c14 h => ?_)))
         ·
          refine L.y rfl (Y.assign rfl) ?_
          refine L.nil (E.thenN (W.condT rfl ?_))
          exact W.skip (E.joinJ ⟨true, rfl, rfl, h⟩ ⟨rfl, rfl, rfl, rfl, rfl, rfl, rfl, trivial⟩ (fun _ hw => hw))
         ·
          refine L.y rfl (Y.assign rfl) ?_
          refine L.nil (E.thenN (W.condF rfl ?_))
          refine W.region (L.ite h rfl (Y.eql rfl rfl) (fun c15 h => ?_) (fun c15 h => ?_))
          ·
           refine L.y rfl (Y.assign rfl) ?_
           exact L.nil (E.joinJ ⟨true, rfl, rfl, h⟩ ⟨rfl, rfl, rfl, rfl, rfl, rfl, rfl, trivial⟩ (fun _ hw => hw))
          ·
           refine L.y rfl (Y.assign rfl) ?_
           exact L.nil (E.joinJ ⟨false, rfl, rfl, h⟩ ⟨rfl, rfl, rfl, rfl, rfl, rfl, rfl, trivial⟩ (fun _ hw => hw))
        ·
         rintro _ _ ⟨gb4, rfl, rfl, h⟩
         rw [m107_run_Check_K6] at h
         rcases gb4 with _ | _
         ·
          replace h := iteF h
          refine W.condF rfl ?_
          refine W.seq (W.seq (W.region (L.ite h rfl (Y.eql rfl rfl) (fun c10 h => ?_) (fun c10 h => ?_))))
          ·
           refine L.y rfl (Y.assign rfl) ?_
           refine L.nil (E.thenN (W.condT rfl ?_))
           refine W.skip (E.thenN (W.condT rfl ?_))
           refine W.seq (W.region (L.y rfl (Y.fieldP fd164_2 rfl) ?_))
           refine L.y rfl (Y.loadP (i := 0) ag3 rfl rfl rfl) ?_
           refine L.ite h rfl (Y.neq rfl rfl) (fun c11 h => ?_) (fun c11 h => ?_)
           ·
            refine L.nil (E.thenN (W.condT rfl ?_))
            refine W.seq (W.region (L.y rfl (Y.assign rfl) ?_))
            refine L.nil (E.thenN (W.ret (E.blockR (E.KSR (E.blockR (E.KSR (E.KLR (E.blockR (E.KSR (E.ret1 rfl rfl (fun w1 hw => ?_)))))))))))
            obtain rfl := Option.some.inj h
            exact ⟨_, _, rfl, ⟨rfl, rfl⟩, hw.sel [] (by decide) rfl⟩
           ·
            refine L.nil (E.thenN (W.condF rfl ?_))
            exact W.skip (E.blockN (E.joinJ ⟨rfl, rfl, h⟩ ⟨rfl, rfl, rfl, rfl, rfl, trivial⟩ (fun _ hw => hw)))
          ·
           refine L.y rfl (Y.assign rfl) ?_
           refine L.nil (E.thenN (W.condF rfl ?_))
           refine W.region (L.ite h rfl (Y.eql rfl rfl) (fun c12 h => ?_) (fun c12 h => ?_))
           ·
            refine L.y rfl (Y.assign rfl) ?_
            refine L.nil (E.thenN (W.condT rfl ?_))
            refine W.seq (W.region (L.y rfl (Y.fieldP fd164_2 rfl) ?_))
            refine L.y rfl (Y.loadP (i := 0) ag3 rfl rfl rfl) ?_
            refine L.ite h rfl (Y.neq rfl rfl) (fun c13 h => ?_) (fun c13 h => ?_)
            ·
             refine L.nil (E.thenN (W.condT rfl ?_))
             refine W.seq (W.region (L.y rfl (Y.assign rfl) ?_))
             refine L.nil (E.thenN (W.ret (E.blockR (E.KSR (E.blockR (E.KSR (E.KLR (E.blockR (E.KSR (E.ret1 rfl rfl (fun w1 hw => ?_)))))))))))
             obtain rfl := Option.some.inj h
             exact ⟨_, _, rfl, ⟨rfl, rfl⟩, hw.sel [] (by decide) rfl⟩
            ·
             refine L.nil (E.thenN (W.condF rfl ?_))
             exact W.skip (E.blockN (E.joinJ ⟨rfl, rfl, h⟩ ⟨rfl, rfl, rfl, rfl, rfl, trivial⟩ (fun _ hw => hw)))
           ·
            refine L.y rfl (Y.assign rfl) ?_
            refine L.nil (E.thenN (W.condF rfl ?_))
            refine W.seq (W.region (L.y rfl (Y.assign rfl) ?_))
            refine L.nil (E.thenN (W.ret (E.blockR (E.KSR (E.blockR (E.KSR (E.KLR (E.blockR (E.KSR (E.ret1 rfl rfl (fun w1 hw => ?_)))))))))))
            obtain rfl := Option.some.inj h
            exact ⟨_, _, rfl, ⟨rfl, rfl⟩, hw.sel [] (by decide) rfl⟩
         ·
          replace h := iteT h
          refine W.condT rfl ?_
          exact W.skip (E.blockN (E.joinJ ⟨rfl, rfl, h⟩ ⟨rfl, rfl, rfl, rfl, rfl, trivial⟩ (fun _ hw => hw)))
       ·
        rintro _ _ ⟨rfl, rfl, h⟩
        rw [m107_run_Check_K5] at h
        refine W.seq (W.seq (W.region (L.y rfl (Y.fieldP fd164_0 rfl) ?_)))
        refine L.y rfl (Y.loadP (i := 0) ag3 rfl rfl rfl) ?_
        refine L.m (V := fun _ => pt b1 (0 + x4.Tx.toNat * 1)) h rfl (Y.indexAM (l := gl2) Try.underlying167 sz4 rfl rfl) (fun x6 ex6 h => ?_)
        refine L.iteB h rfl (Y.loadAr (q := 1) (row := B) (j := 0) (p := .bool x6) ag4 rfl rfl rfl (fun _ => rfl) (idxA_idx ex6) rfl) (fun c7 h => ?_) (fun c7 h => ?_)
        ·
         refine L.nil (E.thenN (W.condT rfl ?_))
         refine W.seq (W.region (L.y rfl (Y.assign rfl) ?_))
         refine L.nil (E.thenN (W.ret (E.thenR (E.blockR (E.KSR (E.KLR (E.blockR (E.KSR (E.ret1 rfl rfl (fun w1 hw => ?_))))))))))
         obtain rfl := Option.some.inj h
         exact ⟨_, _, rfl, ⟨rfl, rfl⟩, hw.sel [] (by decide) rfl⟩
        ·
         refine L.nil (E.thenN (W.condF rfl ?_))
         refine W.skip (E.thenN (W.region (L.y rfl (Y.fieldP fd164_0 rfl) ?_)))
         refine L.y rfl (Y.loadP (i := 0) ag3 rfl rfl rfl) ?_
         refine L.y rfl (Y.fieldP fd164_1 rfl) ?_
         refine L.y rfl (Y.loadP (i := 0) ag3 rfl rfl rfl) ?_
         refine L.y rfl (Y.geq rfl rfl) ?_
         refine L.m (V := fun _ => pt b1 (0 + x4.Tx.toNat * 1)) h rfl (Y.indexAM (l := gl2) Try.underlying167 sz4 rfl rfl) (fun x8 ex8 h => ?_)
         refine L.storeArM (q := 1) (row := B) (vs := [.bool (decide (3 ≤ x4.Kind))]) (j := 0) (u1 := decide (3 ≤ x4.Kind)) h sz4 rfl rfl rfl rfl rfl (all1 rfl all0) rfl (fun _ => rfl) (idxA_idx ex8) rfl rfl ?_
         intro l9 el9 h
         exact L.nil (E.blockN (E.joinJ ⟨l9, rfl, rfl, h⟩ ⟨rfl, rfl, rfl, rfl, trivial⟩ (fun _ hw => hw.sel [1] (by decide) rfl)))
     ·
      rintro _ _ ⟨gl3, rfl, rfl, h⟩
      rw [m107_run_Check_K3] at h
      refine W.region (L.m (V := fun x3 => .int .i64 x3) h rfl (Y.addM rfl rfl) (fun x3 ex3 h => ?_))
      refine L.y rfl (Y.move rfl) ?_
      exact L.nil (E.againJ ⟨x3, gl3, rfl, rfl, by rw [hg1]; exact h⟩ (Nat.lt_succ_self _) ⟨rfl, rfl, rfl, rfl, trivial⟩ (fun _ hw => hw))
    ·
     refine L.nil (E.thenN (W.seq (W.condF rfl ?_)))
     exact W.exit (E.thenX (E.KLX (E.blockX (E.joinJ ⟨rfl, rfl, h⟩ trivial (fun _ hw => hw.sel [] (by decide) rfl)))))
   ·
    rintro _ _ ⟨rfl, rfl, h⟩
    rw [m107_run_Check_K2] at h
    refine W.seq (W.region (L.y rfl (Y.assign rfl) ?_))
    refine L.nil (E.thenN (W.ret (E.ret1 rfl rfl (fun w1 hw => ?_))))
    obtain rfl := Option.some.inj h
    exact ⟨_, _, rfl, ⟨rfl, rfl⟩, hw⟩
set_option maxRecDepth 100000 in
set_option maxHeartbeats 8000000 in
theorem w121_slices_Index_int (a0 : (List Int)) (a1 : Int) (u0 : Value) (w : World) (r : Int) (h : m121_slices_Index_int a0 a1 = some r) (hA0 : At w u0 1 (a0.map I)) : Does Try.prog 121 [u0, .int .i64 a1] w fun u m => u = .int .i64 r ∧ m = [] := by
  rw [m121_slices_Index_int] at h
  refine body (n := 19) Try.func121 rfl rfl rfl (Cls.refl w) ?_
  refine W.seq (W.region (L.y rfl (Y.assign rfl) ?_))
  refine L.nil (E.thenN (W.seqJ (fun gs D => gs = [] ∧ D = Cls w [] [] ∧ m121_slices_Index_int_K1 = some r) ?_ ?_))
  ·
   refine W.seq (W.region (L.y rfl (Y.move rfl) ?_))
   refine L.y rfl (Y.lenM (g := I) (l := a0) Try.underlying24 rfl (fun w' hw => hA0.cls0 hw)) ?_
   refine L.y rfl (Y.move rfl) ?_
   refine L.nil (E.thenN (W.block (W.loopJ (fun m gs D => ∃ (gx1 : Int), gs = [(0, u0), (1, .int .i64 a1), (7, .int .i64 (a0.length : Int)), (8, .int .i64 gx1)] ∧ D = Cls w [] [] ∧ m121_slices_Index_int_L1 a0 a1 m gx1 = some r) ⟨0, rfl, rfl, h⟩ ⟨rfl, rfl, rfl, rfl, trivial⟩ (fun _ hw => hw) ?_)))
   rintro m _ _ ⟨gx1, rfl, rfl, h⟩
   rcases m with _ | m
   · rw [m121_slices_Index_int_L1] at h; cases h
   rw [m121_slices_Index_int_L1] at h
   generalize hg1 : m121_slices_Index_int_L1 a0 a1 m = go1 at h
   rw [m121_slices_Index_int_L1B] at h
   refine W.seq (W.region (L.ite h rfl (Y.lss rfl rfl) (fun c1 h => ?_) (fun c1 h => ?_)))
   ·
    refine L.nil (E.thenN (W.seq (W.condT rfl ?_)))
    refine W.skip (E.thenN (W.seq (W.block (W.seq (W.region (L.y rfl (Y.move rfl) ?_))))))
    refine L.y rfl (Y.assign rfl) ?_
    refine L.nil (E.thenN (W.seq (W.region (L.y rfl (Y.move rfl) ?_))))
    refine L.y rfl (Y.move rfl) ?_
    refine L.y rfl (Y.move rfl) ?_
    refine L.m (V := fun _ => el u0 (gx1.toNat * 1)) h rfl (Y.indexM (g := I) (l := a0) Try.underlying24 sz3 rfl rfl (fun w' hw => hA0.cls0 hw)) (fun x2 ex2 h => ?_)
    refine L.y rfl (Y.loadE1 (u := .int .i64 x2) ag3 rfl (fun w' hw => hA0.cls0 hw) (idx_map ex2)) ?_
    refine L.ite h rfl (Y.eql rfl rfl) (fun c3 h => ?_) (fun c3 h => ?_)
    ·
     refine L.nil (E.thenN (W.condT rfl ?_))
     refine W.seq (W.region (L.y rfl (Y.move rfl) ?_))
     refine L.y rfl (Y.assign rfl) ?_
     refine L.nil (E.thenN (W.ret (E.blockR (E.thenR (E.KLR (E.blockR (E.KSR (E.ret1 rfl rfl (fun w1 hw => ?_)))))))))
     obtain rfl := Option.some.inj h
     exact ⟨_, _, rfl, ⟨rfl, rfl⟩, hw⟩
    ·
     refine L.nil (E.thenN (W.condF rfl ?_))
     refine W.skip (E.blockN (E.thenN (W.region (L.m (V := fun x4 => .int .i64 x4) h rfl (Y.addM rfl rfl) (fun x4 ex4 h => ?_)))))
     refine L.y rfl (Y.move rfl) ?_
     exact L.nil (E.againJ ⟨x4, rfl, rfl, by rw [hg1]; exact h⟩ (Nat.lt_succ_self _) ⟨rfl, rfl, rfl, rfl, trivial⟩ (fun _ hw => hw))
   ·
    refine L.nil (E.thenN (W.seq (W.condF rfl ?_)))
    exact W.exit (E.thenX (E.KLX (E.blockX (E.joinJ ⟨rfl, rfl, h⟩ trivial (fun _ hw => hw)))))
  ·
   rintro _ _ ⟨rfl, rfl, h⟩
   rw [m121_slices_Index_int_K1] at h
   refine W.seq (W.region (L.y rfl (Y.assign rfl) ?_))
   refine L.nil (E.thenN (W.ret (E.ret1 rfl rfl (fun w1 hw => ?_))))
   obtain rfl := Option.some.inj h
   exact ⟨_, _, rfl, ⟨rfl, rfl⟩, hw⟩
set_option maxRecDepth 100000 in
set_option maxHeartbeats 8000000 in
theorem w134_slices_Contains_int (a0 : (List Int)) (a1 : Int) (u0 : Value) (w : World) (r : Bool) (h : m134_slices_Contains_int a0 a1 = some r) (hA0 : At w u0 1 (a0.map I)) : Does Try.prog 134 [u0, .int .i64 a1] w fun u m => u = .bool r ∧ m = [] := by
  rw [m134_slices_Contains_int] at h
  refine body (n := 9) Try.func134 rfl rfl rfl (Cls.refl w) ?_
  refine W.seq (W.region (L.y rfl (Y.assign rfl) ?_))
  refine L.nil (E.thenN (W.seq (W.region (L.y rfl (Y.move rfl) ?_))))
  refine L.y rfl (Y.move rfl) ?_
  obtain ⟨x1, e2, h⟩ := bind1S h
  refine L.y rfl (Y.does en121 rfl (fun w' hw => (w121_slices_Index_int a0 a1 u0 w' _ e2 (hA0.cls0 hw)).mono (fun _ _ h => h.1))) ?_
  refine L.y rfl (Y.geq rfl rfl) ?_
  refine L.y rfl (Y.assign rfl) ?_
  refine L.nil (E.thenN (W.ret (E.ret1 rfl rfl (fun w1 hw => ?_))))
  obtain rfl := Option.some.inj h
  exact ⟨_, _, rfl, ⟨rfl, rfl⟩, hw⟩
set_option maxRecDepth 100000 in
set_option maxHeartbeats 8000000 in
theorem w95_snap_Play (a0 : (List TOp)) (u0 : Value) (w : World) (r : ((List TDid) × Int)) (h : m95_snap_Play a0 = some r) (hA0 : At w u0 3 (a0.map TOp.row)) : Does Try.prog 95 [u0] w fun u m => ∃ v0, u = .tuple #[v0, .int .i64 r.2] ∧ m = [.sl v0 152 2 (r.1.map TDid.row)] := by
  rw [m95_snap_Play] at h
  refine body (n := 27) Try.func95 rfl rfl rfl (Cls.refl w) ?_
  refine W.seq (W.region (L.y rfl (Y.assign rfl) ?_))
  refine L.y rfl (Y.assign rfl) ?_
  refine L.nil (E.thenN (W.seqJ (fun gs D => gs = [(0, u0)] ∧ D = Cls w [] [] ∧ m95_snap_Play_K1 a0 = some r) ?_ ?_))
  ·
   refine W.seq (W.region (L.y rfl (Y.move rfl) ?_))
   obtain ⟨x104, e105, h⟩ := bind1S h
   refine L.y rfl (Y.does en107 rfl (fun w' hw => (w107_run_Check a0 u0 w' _ e105 (hA0.cls0 hw)).mono (fun _ _ h => h.1))) ?_
   refine L.y rfl (Y.assign rfl) ?_
   refine L.nil (E.thenN (W.seq (W.region (L.y rfl (Y.move rfl) ?_))))
   refine L.ite h rfl (Y.neq rfl rfl) (fun c106 h => ?_) (fun c106 h => ?_)
   ·
    refine L.nil (E.thenN (W.condT rfl ?_))
    refine W.seq (W.region (L.y rfl (Y.move rfl) ?_))
    refine L.y rfl (Y.assign rfl) ?_
    refine L.y rfl (Y.assign rfl) ?_
    refine L.nil (E.thenN (W.ret (E.KSR (E.ret2 rfl rfl rfl (fun w1 hw => ?_)))))
    obtain rfl := Option.some.inj h
    exact ⟨_, _, rfl, ⟨_, rfl, rfl⟩, (hw.nilSl 152 2)⟩
   ·
    refine L.nil (E.thenN (W.condF rfl ?_))
    exact W.skip (E.joinJ ⟨rfl, rfl, h⟩ ⟨rfl, trivial⟩ (fun _ hw => hw))
  ·
   rintro _ _ ⟨rfl, rfl, h⟩
   rw [m95_snap_Play_K1] at h
   refine W.seq (W.region (L.alloc rfl ze206 ?_))
   intro b1
   refine L.toSeg (S := [(zr Ttx.rowv (fun _ => [nilV]) (List.replicate 12 ((⟨false, 0, []⟩ : Ttx) : Ttx))).flatten, [.int .i64 0], (zr svRow (fun _ => [nilV]) (List.replicate 20 ([] : (List Tversion)))).flatten]) rfl ?_
   refine L.ssNil (sds := Ttx.sds) (vs := (fun _ => [nilV])) (xs := (List.replicate 12 ((⟨false, 0, []⟩ : Ttx) : Ttx))) (zs_repl (gall1 rfl rfl gall0) _) ?_
   refine L.ssNil (sds := (svSd 235 2 Tversion.row)) (vs := (fun _ => [nilV])) (xs := (List.replicate 20 ([] : (List Tversion)))) (zs_repl (gall1 rfl rfl gall0) _) ?_
   refine L.nil (E.thenN (W.seq (W.region (L.y rfl (Y.assign rfl) ?_))))
   refine L.nil (E.thenN (W.seqJ (fun gs D => ∃ (gv1 : Value) (gl2 : (List TDid)), gs = [(6, gv1)] ∧ D = Cls w [] [.sl gv1 152 2 (gl2.map TDid.row)] ∧ m95_snap_Play_K2 gl2 = some r) ?_ ?_))
   ·
    refine W.seq (W.region (L.y rfl (Y.move rfl) ?_))
    refine L.y rfl (Y.lenM (g := TOp.row) (l := a0) Try.underlying71 rfl (fun w' hw => hA0.cls0 hw)) ?_
    refine L.y rfl (Y.move rfl) ?_
    refine L.nil (E.thenN (W.block (W.nilSl 152 2 ?_)))
    refine W.loopJ (fun m gs D => ∃ (gv3 : Value) (gl4 : (List TDid)) (gx5 : Int) (gl6 : (List Ttx)) (gq7 : Nat → List Value) (gx8 : Int) (gl9 : (List (List Tversion))) (gq10 : Nat → List Value), gs = [(5, pt b1 0), (6, gv3), (14, u0), (15, .int .i64 (a0.length : Int)), (16, .int .i64 gx5)] ∧ D = Cls w [] [.obj b1 (List.flatten [(zr Ttx.rowv gq7 gl6).flatten, [.int .i64 gx8], (zr svRow gq10 gl9).flatten]) 206, .ss (zs Ttx.sds gq7 gl6), .ss (zs (svSd 235 2 Tversion.row) gq10 gl9), .sl gv3 152 2 (gl4.map TDid.row)] ∧ m95_snap_Play_L1 a0 m gl4 gx5 gl6 gx8 gl9 = some r) ⟨.slice none 0 0, [], 0, (List.replicate 12 ((⟨false, 0, []⟩ : Ttx) : Ttx)), (fun _ => [nilV]), 0, (List.replicate 20 ([] : (List Tversion))), (fun _ => [nilV]), rfl, rfl, h⟩ ⟨rfl, rfl, rfl, rfl, rfl, trivial⟩ (fun _ hw => hw.sel [3, 2, 1, 0] (by decide) rfl) ?_
    rintro m _ _ ⟨gv3, gl4, gx5, gl6, gq7, gx8, gl9, gq10, rfl, rfl, h⟩
    rcases m with _ | m
    · rw [m95_snap_Play_L1] at h; cases h
    rw [m95_snap_Play_L1] at h
    generalize hg1 : m95_snap_Play_L1 a0 m = go1 at h
    rw [m95_snap_Play_L1B] at h
    refine W.seq (W.region (L.ite h rfl (Y.lss rfl rfl) (fun c2 h => ?_) (fun c2 h => ?_)))
    ·
     refine L.nil (E.thenN (W.seq (W.condT rfl ?_)))
     refine W.skip (E.thenN (W.seq (W.block (W.seq (W.region (L.m (V := fun _ => el u0 (gx5.toNat * 3)) h rfl (Y.indexM (g := TOp.row) (l := a0) Try.underlying71 sz164 rfl rfl (fun w' hw => hA0.cls0 hw)) (fun x3 ex3 h => ?_)))))))
     refine L.y rfl (Y.loadEN (r := [.int .i64 x3.Tx, .int .i64 x3.Kind, .int .i64 x3.Item]) ag164 sz164 rfl (fun w' hw => hA0.cls0 hw) (idx_map ex3) rfl) ?_
     refine L.alloc rfl ze164 ?_
     intro b4
     refine L.store (i := 0) sz164 rfl rfl rfl rfl (by simp [Value.oneCell', Value.cells, st, pt]) rfl (Nat.le_of_ble_eq_true rfl) ?_
     refine L.nil (E.thenN (W.region (L.y rfl (Y.move rfl) ?_)))
     refine L.y rfl (Y.loadPW (i := 0) ag164 sz164 rfl rfl rfl) ?_
     refine L.callJ (fun v D => ∃ (gb11 : Bool) (gx12 : Int) (gl13 : (List Ttx)) (gq14 : Nat → List Value) (gx15 : Int) (gl16 : (List (List Tversion))) (gq17 : Nat → List Value), v = .agg #[.bool gb11, .int .i64 gx12] ∧ D = Cls w [] [.obj b1 (List.flatten [(zr Ttx.rowv gq14 gl13).flatten, [.int .i64 gx15], (zr svRow gq17 gl16).flatten]) 206, .ss (zs Ttx.sds gq14 gl13), .ss (zs (svSd 235 2 Tversion.row) gq17 gl16), .sl gv3 152 2 (gl4.map TDid.row)] ∧ m95_snap_Play_K3 gl4 gx5 go1 gb11 gx12 gl13 gx15 gl16 = some r) rfl en139 rfl Try.func139 rfl rfl rfl ?_ ?_
     ·
      refine W.seq (W.region (L.box rfl rfl ?_))
      intro b9
      refine L.alloc rfl ze152 ?_
      intro b10
      refine L.nil (E.thenN (W.seq (W.quietC mixed (by kernel_rfl) (fun _ hw => hw.drew) (fun hC => ?_))))
      refine U.y rfl (Y.move rfl) ?_
      refine U.y rfl (Y.fieldP fd164_0 rfl) ?_
      refine U.y rfl (Y.loadP (i := 1) ag3 rfl rfl rfl) ?_
      refine U.y rfl (Y.nilCheck rfl) ?_
      refine U.y rfl (Y.fieldP fd206_0 rfl) ?_
      refine U.m (V := fun _ => pt b1 (0 + x3.Tx.toNat * 3)) h rfl (Y.indexAS (l := gl6) Try.underlying202 sz201 rfl rfl) (fun x11 ex11 h => ?_)
      refine U.y rfl (Y.assign rfl) ?_
      refine U.nil (E.thenN (W.seqJ (fun gs D => ∃ (gl18 : (List Ttx)) (gq19 : Nat → List Value), gs = [(0, pt b1 0), (3, pt b9 0), (4, pt b10 0), (5, pt b1 (0 + x3.Tx.toNat * 3))] ∧ D = Cls w [] [.obj b10 [.bool false, .int .i64 0] 152, .obj b9 [.int .i64 x3.Tx, .int .i64 x3.Kind, .int .i64 x3.Item] 164, .obj b1 (List.flatten [(zr Ttx.rowv gq19 gl18).flatten, [.int .i64 gx8], (zr svRow gq10 gl9).flatten]) 206, .ss (zs Ttx.sds gq19 gl18), .ss (zs (svSd 235 2 Tversion.row) gq10 gl9), .sl gv3 152 2 (gl4.map TDid.row)] ∧ m95_snap_Play_K4 x3 gl9 gl4 gx5 go1 gx8 gl18 = some r) ?_ ?_))
      ·
       refine W.seq (W.region (L.y rfl (Y.move rfl) ?_))
       refine L.y rfl (Y.nilCheck rfl) ?_
       refine L.y rfl (Y.fieldP fd201_0 rfl) ?_
       refine L.iteB h rfl (Y.loadZg (si := 0) (ps := 0) (q := 3) (row := Ttx.rowv) (vs := gq7) (j := 0) (pv := .bool x11.began_) ag4 rfl rfl rfl rfl sl0 (fun _ _ => rfl) (idxA_idx ex11) rfl) (fun c100 h => ?_) (fun c100 h => ?_)
       ·
        refine L.y rfl (Y.not rfl) ?_
        refine L.nil (E.thenN (W.condF rfl ?_))
        exact W.skip (E.joinJ ⟨gl6, gq7, rfl, rfl, h⟩ ⟨rfl, rfl, rfl, rfl, trivial⟩ (fun _ hw => hw.sel [0, 1, 3, 4, 5, 6] (by decide) rfl))
       ·
        refine L.y rfl (Y.not rfl) ?_
        refine L.nil (E.thenN (W.condT rfl ?_))
        refine W.region (L.y rfl (Y.move rfl) ?_)
        refine L.y rfl (Y.move rfl) ?_
        refine L.y rfl (Y.nilCheck rfl) ?_
        refine L.y rfl (Y.fieldP fd206_1 rfl) ?_
        obtain ⟨_, en101, h⟩ := bind1S h
        obtain ⟨_, en101⟩ := arrN_some en101
        refine L.y rfl (Y.loadG (q := 3) (si := 1) (ps := 36) (j := 0) (X := [.int .i64 gx8]) ag3 rfl rfl rfl rfl (sl1 (a := 36) (p := 0) (zrN (nn := 12) (k := 3) (fun _ _ => rfl) en101) sl0) rfl) ?_
        refine L.y rfl (Y.build (cells := #[.bool true, .int .i64 gx8, .slice none 0 0]) rfl (by kernel_rfl)) ?_
        refine L.y rfl (Y.nilCheck rfl) ?_
        refine L.storeZAg (si := 0) (ps := 0) (row := Ttx.rowv) (sds := Ttx.sds) (vs := gq7) (q := 3) (s := 4) (u1 := (⟨true, gx8, []⟩ : Ttx)) (vals := [.bool true, .int .i64 gx8, .slice none 0 0]) (v1 := [nilV]) (j := 0) h sz201 rfl rfl rfl rfl rfl (all1 rfl (all1 rfl (all1 rfl all0))) rfl rfl sl0 rfl (fun _ _ => rfl) (idxA_idx ex11) rfl rfl (gall1 rfl rfl gall0) ?_
        intro l102 q103 el102 h
        exact L.nil (E.joinJ ⟨l102, q103, rfl, rfl, h⟩ ⟨rfl, rfl, rfl, rfl, trivial⟩ (fun _ hw => hw.sel [0, 1, 3, 4, 5, 6] (by decide) rfl))
      ·
       rintro _ _ ⟨gl18, gq19, rfl, rfl, h⟩
       rw [m95_snap_Play_K4] at h
       refine W.seq (W.region (L.y rfl (Y.build (cells := #[.bool true, .int .i64 (-1)]) rfl (by kernel_rfl)) ?_))
       refine L.alloc rfl ze152 ?_
       intro b12
       refine L.store (i := 0) sz152 rfl rfl rfl rfl (by simp [Value.oneCell', Value.cells, st, pt]) rfl (Nat.le_of_ble_eq_true rfl) ?_
       refine L.nil (E.thenN (W.seqJ (fun gs D => ∃ (gb20 : Bool) (gx21 : Int) (gl22 : (List Ttx)) (gq23 : Nat → List Value) (gx24 : Int) (gl25 : (List (List Tversion))) (gq26 : Nat → List Value), gs = [(4, pt b10 0), (6, pt b12 0)] ∧ D = Cls w [] [.obj b12 [.bool gb20, .int .i64 gx21] 152, .obj b10 [.bool false, .int .i64 0] 152, .obj b1 (List.flatten [(zr Ttx.rowv gq23 gl22).flatten, [.int .i64 gx24], (zr svRow gq26 gl25).flatten]) 206, .ss (zs Ttx.sds gq23 gl22), .ss (zs (svSd 235 2 Tversion.row) gq26 gl25), .sl gv3 152 2 (gl4.map TDid.row)] ∧ m95_snap_Play_K5 gl4 gx5 go1 gb20 gx21 gl22 gx24 gl25 = some r) ?_ ?_))
       ·
        refine W.seq (W.region (L.y rfl (Y.fieldP fd164_1 rfl) ?_))
        refine L.y rfl (Y.loadP (i := 2) ag3 rfl rfl rfl) ?_
        refine L.nil (E.thenN (W.block (W.seqJ (fun gs D => ∃ (gb27 : Bool), gs = [(0, pt b1 0), (3, pt b9 0), (4, pt b10 0), (5, pt b1 (0 + x3.Tx.toNat * 3)), (6, pt b12 0), (27, .int .i64 x3.Kind), (28, .bool gb27)] ∧ D = Cls w [] [.obj b12 [.bool true, .int .i64 (-1)] 152, .obj b10 [.bool false, .int .i64 0] 152, .obj b9 [.int .i64 x3.Tx, .int .i64 x3.Kind, .int .i64 x3.Item] 164, .obj b1 (List.flatten [(zr Ttx.rowv gq19 gl18).flatten, [.int .i64 gx8], (zr svRow gq10 gl9).flatten]) 206, .ss (zs Ttx.sds gq19 gl18), .ss (zs (svSd 235 2 Tversion.row) gq10 gl9), .sl gv3 152 2 (gl4.map TDid.row)] ∧ m95_snap_Play_K6 gl18 x3 gl9 gl4 gx5 go1 gx8 gb27 = some r) ?_ ?_)))
        ·
         refine W.region (L.ite h rfl (Y.eql rfl rfl) (fun c99 h => ?_) (fun c99 h => ?_))
         ·
          refine L.y rfl (Y.assign rfl) ?_
          exact L.nil (E.joinJ ⟨true, rfl, rfl, h⟩ ⟨rfl, rfl, rfl, rfl, rfl, rfl, rfl, trivial⟩ (fun _ hw => hw))
         ·
          refine L.y rfl (Y.assign rfl) ?_
          exact L.nil (E.joinJ ⟨false, rfl, rfl, h⟩ ⟨rfl, rfl, rfl, rfl, rfl, rfl, rfl, trivial⟩ (fun _ hw => hw))
        ·
         rintro _ _ ⟨gb27, rfl, rfl, h⟩
         rw [m95_snap_Play_K6] at h
         rcases gb27 with _ | _
         ·
          replace h := iteF h
          refine W.condF rfl ?_
          refine W.seqJ (fun gs D => ∃ (gb28 : Bool), gs = [(0, pt b1 0), (3, pt b9 0), (4, pt b10 0), (5, pt b1 (0 + x3.Tx.toNat * 3)), (6, pt b12 0), (27, .int .i64 x3.Kind), (49, .bool gb28)] ∧ D = Cls w [] [.obj b12 [.bool true, .int .i64 (-1)] 152, .obj b10 [.bool false, .int .i64 0] 152, .obj b9 [.int .i64 x3.Tx, .int .i64 x3.Kind, .int .i64 x3.Item] 164, .obj b1 (List.flatten [(zr Ttx.rowv gq19 gl18).flatten, [.int .i64 gx8], (zr svRow gq10 gl9).flatten]) 206, .ss (zs Ttx.sds gq19 gl18), .ss (zs (svSd 235 2 Tversion.row) gq10 gl9), .sl gv3 152 2 (gl4.map TDid.row)] ∧ m95_snap_Play_K7 gl18 x3 gl4 gx5 go1 gx8 gl9 gb28 = some r) ?_ ?_
          ·
           refine W.region (L.ite h rfl (Y.eql rfl rfl) (fun c85 h => ?_) (fun c85 h => ?_))
           ·
            refine L.y rfl (Y.assign rfl) ?_
            exact L.nil (E.joinJ ⟨true, rfl, rfl, h⟩ ⟨rfl, rfl, rfl, rfl, rfl, rfl, rfl, trivial⟩ (fun _ hw => hw))
           ·
            refine L.y rfl (Y.assign rfl) ?_
            exact L.nil (E.joinJ ⟨false, rfl, rfl, h⟩ ⟨rfl, rfl, rfl, rfl, rfl, rfl, rfl, trivial⟩ (fun _ hw => hw))
          ·
           rintro _ _ ⟨gb28, rfl, rfl, h⟩
           rw [m95_snap_Play_K7] at h
           rcases gb28 with _ | _
           ·
            replace h := iteF h
            refine W.condF rfl ?_
            refine W.seq (W.region (L.ite h rfl (Y.eql rfl rfl) (fun c13 h => ?_) (fun c13 h => ?_)))
            ·
             refine L.y rfl (Y.assign rfl) ?_
             refine L.nil (E.thenN (W.condT rfl ?_))
             refine W.region (L.y rfl (Y.move rfl) ?_)
             refine L.y rfl (Y.move rfl) ?_
             refine L.y rfl (Y.fieldP fd164_0 rfl) ?_
             refine L.y rfl (Y.loadP (i := 2) ag3 rfl rfl rfl) ?_
             refine L.callJ (fun v D => ∃ (gb29 : Bool) (gx30 : Int) (gl31 : (List (List Tversion))) (gq32 : Nat → List Value), v = .bool gb29 ∧ D = Cls w [] [.obj b12 [.bool true, .int .i64 (-1)] 152, .obj b10 [.bool false, .int .i64 0] 152, .obj b1 (List.flatten [(zr Ttx.rowv gq19 gl18).flatten, [.int .i64 gx30], (zr svRow gq32 gl31).flatten]) 206, .ss (zs Ttx.sds gq19 gl18), .ss (zs (svSd 235 2 Tversion.row) gq32 gl31), .sl gv3 152 2 (gl4.map TDid.row)] ∧ m95_snap_Play_K8 gl4 gx5 go1 gl18 gb29 gx30 gl31 = some r) rfl en154 rfl Try.func154 rfl rfl rfl ?_ ?_
             ·
              refine W.seq (W.region (L.y rfl (Y.assign rfl) ?_))
              refine L.nil (E.thenN (W.seqJ (fun gs D => gs = [(0, pt b1 0), (1, pt b1 (0 + x3.Tx.toNat * 3)), (2, .int .i64 x3.Tx)] ∧ D = Cls w [] [.obj b12 [.bool true, .int .i64 (-1)] 152, .obj b10 [.bool false, .int .i64 0] 152, .obj b1 (List.flatten [(zr Ttx.rowv gq19 gl18).flatten, [.int .i64 gx8], (zr svRow gq10 gl9).flatten]) 206, .ss (zs Ttx.sds gq19 gl18), .ss (zs (svSd 235 2 Tversion.row) gq10 gl9), .sl gv3 152 2 (gl4.map TDid.row)] ∧ m95_snap_Play_K9 gl18 gx8 x3 gl4 gx5 go1 gl9 = some r) ?_ ?_))
              ·
               refine W.seq (W.region (L.y rfl (Y.move rfl) ?_))
               refine L.y rfl (Y.nilCheck rfl) ?_
               refine L.y rfl (Y.fieldP fd201_2 rfl) ?_
               obtain ⟨x45, ex45, h⟩ := bind1S h
               refine L.y rfl (Y.loadZg (si := 0) (ps := 0) (q := 3) (row := Ttx.rowv) (vs := gq19) (j := 2) (pv := gv (gq19 x3.Tx.toNat) 0) ag24 rfl rfl rfl rfl sl0 (fun _ _ => rfl) ex45 rfl) ?_
               refine L.y rfl (Y.lenM (g := I) (l := x45.writes_) Try.underlying24 rfl (fun w hw => As.atZ (sds := Ttx.sds) (vs := gq19) (j := 0) (c := 1) (hw.get (i := 4) rfl) (fun _ _ => rfl) ex45 rfl)) ?_
               refine L.y rfl (Y.move rfl) ?_
               refine L.nil (E.thenN (W.block (W.loopJ (fun m gs D => ∃ (gx38 : Int), gs = [(0, pt b1 0), (1, pt b1 (0 + x3.Tx.toNat * 3)), (2, .int .i64 x3.Tx), (16, gv (gq19 x3.Tx.toNat) 0), (17, .int .i64 (x45.writes_.length : Int)), (18, .int .i64 gx38)] ∧ D = Cls w [] [.obj b12 [.bool true, .int .i64 (-1)] 152, .obj b10 [.bool false, .int .i64 0] 152, .obj b1 (List.flatten [(zr Ttx.rowv gq19 gl18).flatten, [.int .i64 gx8], (zr svRow gq10 gl9).flatten]) 206, .ss (zs Ttx.sds gq19 gl18), .ss (zs (svSd 235 2 Tversion.row) gq10 gl9), .sl gv3 152 2 (gl4.map TDid.row)] ∧ m95_snap_Play_L3 x45 gl9 gl18 x3 gl4 gx5 go1 gx8 m gx38 = some r) ⟨0, rfl, rfl, h⟩ ⟨rfl, rfl, rfl, rfl, rfl, rfl, trivial⟩ (fun _ hw => hw.sel [0, 1, 3, 4, 5, 6] (by decide) rfl) ?_)))
               rintro m _ _ ⟨gx38, rfl, rfl, h⟩
               rcases m with _ | m
               · rw [m95_snap_Play_L3] at h; cases h
               rw [m95_snap_Play_L3] at h
               generalize hg3 : m95_snap_Play_L3 x45 gl9 gl18 x3 gl4 gx5 go1 gx8 m = go3 at h
               rw [m95_snap_Play_L3B] at h
               refine W.seq (W.region (L.ite h rfl (Y.lss rfl rfl) (fun c46 h => ?_) (fun c46 h => ?_)))
               ·
                refine L.nil (E.thenN (W.seq (W.condT rfl ?_)))
                refine W.skip (E.thenN (W.seqJ (fun gs D => gs = [(0, pt b1 0), (1, pt b1 (0 + x3.Tx.toNat * 3)), (2, .int .i64 x3.Tx), (16, gv (gq19 x3.Tx.toNat) 0), (17, .int .i64 (x45.writes_.length : Int)), (18, .int .i64 gx38)] ∧ D = Cls w [] [.obj b12 [.bool true, .int .i64 (-1)] 152, .obj b10 [.bool false, .int .i64 0] 152, .obj b1 (List.flatten [(zr Ttx.rowv gq19 gl18).flatten, [.int .i64 gx8], (zr svRow gq10 gl9).flatten]) 206, .ss (zs Ttx.sds gq19 gl18), .ss (zs (svSd 235 2 Tversion.row) gq10 gl9), .sl gv3 152 2 (gl4.map TDid.row)] ∧ m95_snap_Play_K11 gx38 go3 = some r) ?_ ?_))
                ·
                 refine W.block (W.seq (W.region (L.m (V := fun _ => el (gv (gq19 x3.Tx.toNat) 0) (gx38.toNat * 1)) h rfl (Y.indexM (g := I) (l := x45.writes_) Try.underlying24 sz3 rfl rfl (fun w hw => As.atZ (sds := Ttx.sds) (vs := gq19) (j := 0) (c := 1) (hw.get (i := 3) rfl) (fun _ _ => rfl) ex45 rfl)) (fun x48 ex48 h => ?_))))
                 refine L.y rfl (Y.loadE1 (u := .int .i64 x48) ag3 rfl (fun w hw => As.atZ (sds := Ttx.sds) (vs := gq19) (j := 0) (c := 1) (hw.get (i := 3) rfl) (fun _ _ => rfl) ex45 rfl) (idx_map ex48)) ?_
                 refine L.y rfl (Y.assign rfl) ?_
                 refine L.nil (E.thenN (W.seq (W.region (L.y rfl (Y.move rfl) ?_))))
                 refine L.y rfl (Y.move rfl) ?_
                 refine L.y rfl (Y.nilCheck rfl) ?_
                 refine L.y rfl (Y.fieldP fd206_2 rfl) ?_
                 refine L.m (V := fun _ => pt b1 (37 + x48.toNat * 1)) h rfl (Y.indexAS (l := gl9) Try.underlying204 sz203 rfl rfl) (fun x49 ex49 h => ?_)
                 obtain ⟨_, en50, h⟩ := bind1S h
                 obtain ⟨_, en50⟩ := arrN_some en50
                 refine L.y rfl (Y.loadZg (si := 2) (ps := 37) (q := 2) (row := svRow) (vs := gq10) (j := 0) (pv := gv (gq10 x48.toNat) 0) ag203 rfl rfl rfl rfl (sl1 (a := 36) (p := 1) (zrN (nn := 12) (k := 3) (fun _ _ => rfl) en50) (sl1 (a := 1) (p := 0) rfl sl0)) (fun _ _ => rfl) (idxA_idx ex49) rfl) ?_
                 refine L.y rfl (Y.lenM (g := Tversion.row) (l := x49) Try.underlying203 rfl (fun w hw => As.atZ (sds := (svSd 235 2 Tversion.row)) (vs := gq10) (j := 0) (c := 1) (hw.get (i := 4) rfl) (fun _ _ => rfl) (idxA_idx ex49) rfl)) ?_
                 refine L.y rfl (Y.move rfl) ?_
                 refine L.nil (E.thenN (W.block (W.loopJ (fun m gs D => ∃ (gx39 : Int), gs = [(0, pt b1 0), (1, pt b1 (0 + x3.Tx.toNat * 3)), (2, .int .i64 x3.Tx), (16, gv (gq19 x3.Tx.toNat) 0), (17, .int .i64 (x45.writes_.length : Int)), (18, .int .i64 gx38), (27, gv (gq10 x48.toNat) 0), (28, .int .i64 (x49.length : Int)), (29, .int .i64 gx39)] ∧ D = Cls w [] [.obj b12 [.bool true, .int .i64 (-1)] 152, .obj b10 [.bool false, .int .i64 0] 152, .obj b1 (List.flatten [(zr Ttx.rowv gq19 gl18).flatten, [.int .i64 gx8], (zr svRow gq10 gl9).flatten]) 206, .ss (zs Ttx.sds gq19 gl18), .ss (zs (svSd 235 2 Tversion.row) gq10 gl9), .sl gv3 152 2 (gl4.map TDid.row)] ∧ m95_snap_Play_L4 x49 gl18 x3 gl4 gx5 go1 gx8 gl9 gx38 go3 m gx39 = some r) ⟨0, rfl, rfl, h⟩ ⟨rfl, rfl, rfl, rfl, rfl, rfl, rfl, rfl, rfl, trivial⟩ (fun _ hw => hw) ?_)))
                 rintro m _ _ ⟨gx39, rfl, rfl, h⟩
                 rcases m with _ | m
                 · rw [m95_snap_Play_L4] at h; cases h
                 rw [m95_snap_Play_L4] at h
                 generalize hg4 : m95_snap_Play_L4 x49 gl18 x3 gl4 gx5 go1 gx8 gl9 gx38 go3 m = go4 at h
                 rw [m95_snap_Play_L4B] at h
                 refine W.seq (W.region (L.ite h rfl (Y.lss rfl rfl) (fun c51 h => ?_) (fun c51 h => ?_)))
                 ·
                  refine L.nil (E.thenN (W.seq (W.condT rfl ?_)))
                  refine W.skip (E.thenN (W.seq (W.block (W.seq (W.region (L.m (V := fun _ => el (gv (gq10 x48.toNat) 0) (gx39.toNat * 2)) h rfl (Y.indexM (g := Tversion.row) (l := x49) Try.underlying203 sz235 rfl rfl (fun w hw => As.atZ (sds := (svSd 235 2 Tversion.row)) (vs := gq10) (j := 0) (c := 1) (hw.get (i := 4) rfl) (fun _ _ => rfl) (idxA_idx ex49) rfl)) (fun x52 ex52 h => ?_)))))))
                  refine L.y rfl (Y.loadEN (r := [.int .i64 x52.by_, .int .i64 x52.at_]) ag235 sz235 rfl (fun w hw => As.atZ (sds := (svSd 235 2 Tversion.row)) (vs := gq10) (j := 0) (c := 1) (hw.get (i := 4) rfl) (fun _ _ => rfl) (idxA_idx ex49) rfl) (idx_map ex52) rfl) ?_
                  refine L.alloc rfl ze235 ?_
                  intro b53
                  refine L.store (i := 0) sz235 rfl rfl rfl rfl (by simp [Value.oneCell', Value.cells, st, pt]) rfl (Nat.le_of_ble_eq_true rfl) ?_
                  refine L.nil (E.thenN (W.seq (W.quietC mixed (by kernel_rfl) (fun _ hw => hw.drew) (fun hC => ?_))))
                  refine U.y rfl (Y.fieldP fd235_1 rfl) ?_
                  refine U.y rfl (Y.loadP (i := 0) ag3 rfl rfl rfl) ?_
                  refine U.y rfl (Y.move rfl) ?_
                  refine U.y rfl (Y.nilCheck rfl) ?_
                  refine U.y rfl (Y.fieldP fd201_1 rfl) ?_
                  obtain ⟨x54, ex54, h⟩ := bind1S h
                  refine U.y rfl (Y.loadZg (si := 0) (ps := 0) (q := 3) (row := Ttx.rowv) (vs := gq19) (j := 1) (pv := .int .i64 x54.from_) ag3 rfl rfl rfl rfl sl0 (fun _ _ => rfl) ex54 rfl) ?_
                  refine U.ite h rfl (Y.gtr rfl rfl) (fun c55 h => ?_) (fun c55 h => ?_)
                  ·
                   refine U.nil (E.thenN (W.condT rfl ?_))
                   refine W.seq (W.region (L.y rfl (Y.assign rfl) ?_))
                   refine L.nil (E.thenN (W.ret (E.blockR (E.thenR (E.KLR (E.blockR (E.blockR (E.KSR (E.KLR (E.blockR (E.KSR (E.ret1 rfl rfl (fun w1 hw => ?_)))))))))))))
                   exact ⟨_, _, rfl, ⟨false, gx8, gl9, gq10, rfl, rfl, h⟩, hw.sel [1, 2, 3, 4, 5, 6] (by decide) rfl⟩
                  ·
                   refine U.nil (E.thenN (W.condF rfl ?_))
                   refine W.skip (E.blockN (E.thenN (W.region (L.m (V := fun x56 => .int .i64 x56) h rfl (Y.addM rfl rfl) (fun x56 ex56 h => ?_)))))
                   refine L.y rfl (Y.move rfl) ?_
                   exact L.nil (E.againJ ⟨x56, rfl, rfl, by rw [hg4]; exact h⟩ (Nat.lt_succ_self _) ⟨rfl, rfl, rfl, rfl, rfl, rfl, rfl, rfl, rfl, trivial⟩ (fun _ hw => hw.sel [1, 2, 3, 4, 5, 6] (by decide) rfl))
                 ·
                  refine L.nil (E.thenN (W.seq (W.condF rfl ?_)))
                  exact W.exit (E.thenX (E.KLX (E.blockX (E.blockN (E.joinJ ⟨rfl, rfl, h⟩ ⟨rfl, rfl, rfl, rfl, rfl, rfl, trivial⟩ (fun _ hw => hw))))))
                ·
                 rintro _ _ ⟨rfl, rfl, h⟩
                 rw [m95_snap_Play_K11] at h
                 refine W.region (L.m (V := fun x47 => .int .i64 x47) h rfl (Y.addM rfl rfl) (fun x47 ex47 h => ?_))
                 refine L.y rfl (Y.move rfl) ?_
                 exact L.nil (E.againJ ⟨x47, rfl, rfl, by rw [hg3]; exact h⟩ (Nat.lt_succ_self _) ⟨rfl, rfl, rfl, rfl, rfl, rfl, trivial⟩ (fun _ hw => hw))
               ·
                refine L.nil (E.thenN (W.seq (W.condF rfl ?_)))
                exact W.exit (E.thenX (E.KLX (E.blockX (E.joinJ ⟨rfl, rfl, h⟩ ⟨rfl, rfl, rfl, trivial⟩ (fun _ hw => hw)))))
              ·
               rintro _ _ ⟨rfl, rfl, h⟩
               rw [m95_snap_Play_K9] at h
               refine W.seq (W.region (L.y rfl (Y.move rfl) ?_))
               refine L.y rfl (Y.nilCheck rfl) ?_
               refine L.y rfl (Y.fieldP fd206_1 rfl) ?_
               obtain ⟨_, en14, h⟩ := bind1S h
               obtain ⟨_, en14⟩ := arrN_some en14
               refine L.y rfl (Y.loadG (q := 2) (si := 1) (ps := 36) (j := 0) (X := [.int .i64 gx8]) ag3 rfl rfl rfl rfl (sl1 (a := 36) (p := 0) (zrN (nn := 12) (k := 3) (fun _ _ => rfl) en14) sl0) rfl) ?_
               refine L.m (V := fun x15 => .int .i64 x15) h rfl (Y.addM rfl rfl) (fun x15 ex15 h => ?_)
               refine L.y rfl (Y.nilCheck rfl) ?_
               refine L.y rfl (Y.fieldP fd206_1 rfl) ?_
               refine L.storeG (q := 2) (si := 1) (ps := 36) (j := 0) (X := [.int .i64 gx8]) (vals := [.int .i64 x15]) sz3 rfl rfl rfl rfl rfl (by simp [Value.oneCell', Value.cells, st, pt]) rfl rfl (sl1 (a := 36) (p := 0) (zrN (nn := 12) (k := 3) (fun _ _ => rfl) en14) sl0) rfl ?_
               refine L.nil (E.thenN (W.seqJ (fun gs D => ∃ (gl33 : (List (List Tversion))) (gq34 : Nat → List Value), gs = [] ∧ D = Cls w [] [.obj b12 [.bool true, .int .i64 (-1)] 152, .obj b10 [.bool false, .int .i64 0] 152, .obj b1 (List.flatten [(zr Ttx.rowv gq19 gl18).flatten, [.int .i64 x15], (zr svRow gq34 gl33).flatten]) 206, .ss (zs Ttx.sds gq19 gl18), .ss (zs (svSd 235 2 Tversion.row) gq34 gl33), .sl gv3 152 2 (gl4.map TDid.row)] ∧ m95_snap_Play_K10 gl4 gx5 go1 gl18 x15 gl33 = some r) ?_ ?_))
               ·
                refine W.seq (W.region (L.y rfl (Y.move rfl) ?_))
                refine L.y rfl (Y.nilCheck rfl) ?_
                refine L.y rfl (Y.fieldP fd201_2 rfl) ?_
                obtain ⟨x16, ex16, h⟩ := bind1S h
                refine L.y rfl (Y.loadZg (si := 0) (ps := 0) (q := 2) (row := Ttx.rowv) (vs := gq19) (j := 2) (pv := gv (gq19 x3.Tx.toNat) 0) ag24 rfl rfl rfl rfl sl0 (fun _ _ => rfl) ex16 rfl) ?_
                refine L.y rfl (Y.lenM (g := I) (l := x16.writes_) Try.underlying24 rfl (fun w hw => As.atZ (sds := Ttx.sds) (vs := gq19) (j := 0) (c := 1) (hw.get (i := 3) rfl) (fun _ _ => rfl) ex16 rfl)) ?_
                refine L.y rfl (Y.move rfl) ?_
                refine L.nil (E.thenN (W.block (W.loopJ (fun m gs D => ∃ (gx35 : Int) (gl36 : (List (List Tversion))) (gq37 : Nat → List Value), gs = [(0, pt b1 0), (2, .int .i64 x3.Tx), (52, gv (gq19 x3.Tx.toNat) 0), (53, .int .i64 (x16.writes_.length : Int)), (54, .int .i64 gx35)] ∧ D = Cls w [] [.obj b12 [.bool true, .int .i64 (-1)] 152, .obj b10 [.bool false, .int .i64 0] 152, .obj b1 (List.flatten [(zr Ttx.rowv gq19 gl18).flatten, [.int .i64 x15], (zr svRow gq37 gl36).flatten]) 206, .ss (zs Ttx.sds gq19 gl18), .ss (zs (svSd 235 2 Tversion.row) gq37 gl36), .sl gv3 152 2 (gl4.map TDid.row)] ∧ m95_snap_Play_L2 x16 x3 x15 gl4 gx5 go1 gl18 m gx35 gl36 = some r) ⟨0, gl9, gq10, rfl, rfl, h⟩ ⟨rfl, rfl, rfl, rfl, rfl, trivial⟩ (fun _ hw => hw) ?_)))
                rintro m _ _ ⟨gx35, gl36, gq37, rfl, rfl, h⟩
                rcases m with _ | m
                · rw [m95_snap_Play_L2] at h; cases h
                rw [m95_snap_Play_L2] at h
                generalize hg2 : m95_snap_Play_L2 x16 x3 x15 gl4 gx5 go1 gl18 m = go2 at h
                rw [m95_snap_Play_L2B] at h
                refine W.seq (W.region (L.ite h rfl (Y.lss rfl rfl) (fun c17 h => ?_) (fun c17 h => ?_)))
                ·
                 refine L.nil (E.thenN (W.seq (W.condT rfl ?_)))
                 refine W.skip (E.thenN (W.seq (W.block (W.seq (W.region (L.m (V := fun _ => el (gv (gq19 x3.Tx.toNat) 0) (gx35.toNat * 1)) h rfl (Y.indexM (g := I) (l := x16.writes_) Try.underlying24 sz3 rfl rfl (fun w hw => As.atZ (sds := Ttx.sds) (vs := gq19) (j := 0) (c := 1) (hw.get (i := 3) rfl) (fun _ _ => rfl) ex16 rfl)) (fun x18 ex18 h => ?_)))))))
                 refine L.y rfl (Y.loadE1 (u := .int .i64 x18) ag3 rfl (fun w hw => As.atZ (sds := Ttx.sds) (vs := gq19) (j := 0) (c := 1) (hw.get (i := 3) rfl) (fun _ _ => rfl) ex16 rfl) (idx_map ex18)) ?_
                 refine L.y rfl (Y.assign rfl) ?_
                 refine L.nil (E.thenN (W.drawn2 (k := 20) (stC [[15, 19], [19]] [Cls w [] [.obj b12 [.bool true, .int .i64 (-1)] 152, .obj b10 [.bool false, .int .i64 0] 152, .obj b1 (List.flatten [(zr Ttx.rowv gq19 gl18).flatten, [.int .i64 x15], (zr svRow gq37 gl36).flatten]) 206, .ss (zs Ttx.sds gq19 gl18), .ss (zs (svSd 235 2 Tversion.row) gq37 gl36), .sl gv3 152 2 (gl4.map TDid.row)], Cls w [] [.obj b12 [.bool true, .int .i64 (-1)] 152, .obj b10 [.bool false, .int .i64 0] 152, .obj b1 (List.flatten [(zr Ttx.rowv gq19 gl18).flatten, [.int .i64 x15], (zr svRow gq37 gl36).flatten]) 206, .ss (zs Ttx.sds gq19 gl18), .sl gv3 152 2 (gl4.map TDid.row)]] (Cls w [] [.obj b12 [.bool true, .int .i64 (-1)] 152, .obj b10 [.bool false, .int .i64 0] 152, .ss (zs Ttx.sds gq19 gl18), .sl gv3 152 2 (gl4.map TDid.row)])) rfl mixed (fun _ hw => hw.drew) (Sc.now (by kernel_rfl) (fun _ hw => hw)) ?_))
                 refine V2.y (i := 0) (Nx2.of (Z := Cls w [] [.obj b12 [.bool true, .int .i64 (-1)] 152, .obj b10 [.bool false, .int .i64 0] 152, .ss (zs Ttx.sds gq19 gl18), .sl gv3 152 2 (gl4.map TDid.row)]) [] (by kernel_rfl) rfl (Zc.on (fun _ hw => hw.sel [0, 1, 3, 5] (by decide) rfl) (Zc.on (fun _ hw => hw.sel [0, 1, 3, 4] (by decide) rfl) (Zc.fin (fun _ hw => hw))))) rfl rfl rfl (Y.move rfl) ?_
                 refine V2.y (i := 1) (Nx2.of (Z := Cls w [] [.obj b12 [.bool true, .int .i64 (-1)] 152, .obj b10 [.bool false, .int .i64 0] 152, .ss (zs Ttx.sds gq19 gl18), .sl gv3 152 2 (gl4.map TDid.row)]) [] (by kernel_rfl) rfl (Zc.on (fun _ hw => hw.sel [0, 1, 3, 5] (by decide) rfl) (Zc.on (fun _ hw => hw.sel [0, 1, 3, 4] (by decide) rfl) (Zc.fin (fun _ hw => hw))))) rfl rfl rfl (Y.move rfl) ?_
                 refine V2.y (i := 2) (Nx2.of (Z := Cls w [] [.obj b12 [.bool true, .int .i64 (-1)] 152, .obj b10 [.bool false, .int .i64 0] 152, .ss (zs Ttx.sds gq19 gl18), .sl gv3 152 2 (gl4.map TDid.row)]) [] (by kernel_rfl) rfl (Zc.on (fun _ hw => hw.sel [0, 1, 3, 5] (by decide) rfl) (Zc.on (fun _ hw => hw.sel [0, 1, 3, 4] (by decide) rfl) (Zc.fin (fun _ hw => hw))))) rfl rfl rfl (Y.move rfl) ?_
                 refine V2.y (i := 3) (Nx2.of (Z := Cls w [] [.obj b12 [.bool true, .int .i64 (-1)] 152, .obj b10 [.bool false, .int .i64 0] 152, .ss (zs Ttx.sds gq19 gl18), .sl gv3 152 2 (gl4.map TDid.row)]) [] (by kernel_rfl) rfl (Zc.on (fun _ hw => hw.sel [0, 1, 3, 5] (by decide) rfl) (Zc.on (fun _ hw => hw.sel [0, 1, 3, 4] (by decide) rfl) (Zc.fin (fun _ hw => hw))))) rfl rfl rfl (Y.move rfl) ?_
                 refine V2.nilc (i := 4) (Nx2.of (Z := Cls w [] [.obj b12 [.bool true, .int .i64 (-1)] 152, .obj b10 [.bool false, .int .i64 0] 152, .ss (zs Ttx.sds gq19 gl18), .sl gv3 152 2 (gl4.map TDid.row)]) [] (by kernel_rfl) rfl (Zc.on (fun _ hw => hw.sel [0, 1, 3, 5] (by decide) rfl) (Zc.on (fun _ hw => hw.sel [0, 1, 3, 4] (by decide) rfl) (Zc.fin (fun _ hw => hw))))) rfl rfl rfl ?_
                 refine V2.y (i := 5) (Nx2.of (Z := Cls w [] [.obj b12 [.bool true, .int .i64 (-1)] 152, .obj b10 [.bool false, .int .i64 0] 152, .ss (zs Ttx.sds gq19 gl18), .sl gv3 152 2 (gl4.map TDid.row)]) [] (by kernel_rfl) rfl (Zc.on (fun _ hw => hw.sel [0, 1, 3, 5] (by decide) rfl) (Zc.on (fun _ hw => hw.sel [0, 1, 3, 4] (by decide) rfl) (Zc.fin (fun _ hw => hw))))) rfl rfl rfl (Y.fieldP fd206_2 rfl) ?_
                 refine V2.m (i := 6) (V' := fun _ => pt b1 (37 + x18.toNat * 1)) h (Nx2.of (Z := Cls w [] [.obj b12 [.bool true, .int .i64 (-1)] 152, .obj b10 [.bool false, .int .i64 0] 152, .obj b1 (List.flatten [(zr Ttx.rowv gq19 gl18).flatten, [.int .i64 x15], (zr svRow gq37 gl36).flatten]) 206, .ss (zs Ttx.sds gq19 gl18), .sl gv3 152 2 (gl4.map TDid.row)]) [19] (by kernel_rfl) rfl (Zc.on (fun _ hw => hw.sel [0, 1, 2, 3, 5] (by decide) rfl) (Zc.at1 (fun _ hw => hw)))) rfl rfl rfl (Y.indexAS (l := gl36) Try.underlying204 sz203 rfl rfl) (fun x37 ex37 h => ?_)
                 refine V2.y (i := 7) (Nx2.of (Z := Cls w [] [.obj b12 [.bool true, .int .i64 (-1)] 152, .obj b10 [.bool false, .int .i64 0] 152, .obj b1 (List.flatten [(zr Ttx.rowv gq19 gl18).flatten, [.int .i64 x15], (zr svRow gq37 gl36).flatten]) 206, .ss (zs Ttx.sds gq19 gl18), .sl gv3 152 2 (gl4.map TDid.row)]) [19] (by kernel_rfl) rfl (Zc.on (fun _ hw => hw.sel [0, 1, 2, 3, 5] (by decide) rfl) (Zc.at1 (fun _ hw => hw)))) rfl rfl rfl (Y.loadZg (si := 2) (ps := 37) (q := 2) (row := svRow) (vs := gq37) (j := 0) (pv := gv (gq37 x18.toNat) 0) ag203 rfl rfl rfl rfl (sl1 (a := 36) (p := 1) (zrN (nn := 12) (k := 3) (fun _ _ => rfl) en14) (sl1 (a := 1) (p := 0) rfl sl0)) (fun _ _ => rfl) (idxA_idx ex37) rfl) ?_
                 refine V2.y (i := 8) (Nx2.of (Z := Cls w [] [.obj b12 [.bool true, .int .i64 (-1)] 152, .obj b10 [.bool false, .int .i64 0] 152, .ss (zs Ttx.sds gq19 gl18), .sl gv3 152 2 (gl4.map TDid.row)]) [] (by kernel_rfl) rfl (Zc.on (fun _ hw => hw.sel [0, 1, 3, 5] (by decide) rfl) (Zc.on (fun _ hw => hw.sel [0, 1, 3, 4] (by decide) rfl) (Zc.fin (fun _ hw => hw))))) rfl rfl rfl (Y.move rfl) ?_
                 refine V2.y (i := 9) (Nx2.of (Z := Cls w [] [.obj b12 [.bool true, .int .i64 (-1)] 152, .obj b10 [.bool false, .int .i64 0] 152, .ss (zs Ttx.sds gq19 gl18), .sl gv3 152 2 (gl4.map TDid.row)]) [] (by kernel_rfl) rfl (Zc.on (fun _ hw => hw.sel [0, 1, 3, 5] (by decide) rfl) (Zc.on (fun _ hw => hw.sel [0, 1, 3, 4] (by decide) rfl) (Zc.fin (fun _ hw => hw))))) rfl rfl rfl (Y.move rfl) ?_
                 refine V2.nilc (i := 10) (Nx2.of (Z := Cls w [] [.obj b12 [.bool true, .int .i64 (-1)] 152, .obj b10 [.bool false, .int .i64 0] 152, .ss (zs Ttx.sds gq19 gl18), .sl gv3 152 2 (gl4.map TDid.row)]) [] (by kernel_rfl) rfl (Zc.on (fun _ hw => hw.sel [0, 1, 3, 5] (by decide) rfl) (Zc.on (fun _ hw => hw.sel [0, 1, 3, 4] (by decide) rfl) (Zc.fin (fun _ hw => hw))))) rfl rfl rfl ?_
                 refine V2.y (i := 11) (Nx2.of (Z := Cls w [] [.obj b12 [.bool true, .int .i64 (-1)] 152, .obj b10 [.bool false, .int .i64 0] 152, .ss (zs Ttx.sds gq19 gl18), .sl gv3 152 2 (gl4.map TDid.row)]) [] (by kernel_rfl) rfl (Zc.on (fun _ hw => hw.sel [0, 1, 3, 5] (by decide) rfl) (Zc.on (fun _ hw => hw.sel [0, 1, 3, 4] (by decide) rfl) (Zc.fin (fun _ hw => hw))))) rfl rfl rfl (Y.fieldP fd206_1 rfl) ?_
                 refine V2.y (i := 12) (Nx2.of (Z := Cls w [] [.obj b12 [.bool true, .int .i64 (-1)] 152, .obj b10 [.bool false, .int .i64 0] 152, .obj b1 (List.flatten [(zr Ttx.rowv gq19 gl18).flatten, [.int .i64 x15], (zr svRow gq37 gl36).flatten]) 206, .ss (zs Ttx.sds gq19 gl18), .sl gv3 152 2 (gl4.map TDid.row)]) [19] (by kernel_rfl) rfl (Zc.on (fun _ hw => hw.sel [0, 1, 2, 3, 5] (by decide) rfl) (Zc.at1 (fun _ hw => hw)))) rfl rfl rfl (Y.loadG (q := 2) (si := 1) (ps := 36) (j := 0) (X := [.int .i64 x15]) ag3 rfl rfl rfl rfl (sl1 (a := 36) (p := 0) (zrN (nn := 12) (k := 3) (fun _ _ => rfl) en14) sl0) rfl) ?_
                 refine V2.y (i := 13) (Nx2.of (Z := Cls w [] [.obj b12 [.bool true, .int .i64 (-1)] 152, .obj b10 [.bool false, .int .i64 0] 152, .ss (zs Ttx.sds gq19 gl18), .sl gv3 152 2 (gl4.map TDid.row)]) [] (by kernel_rfl) rfl (Zc.on (fun _ hw => hw.sel [0, 1, 3, 5] (by decide) rfl) (Zc.on (fun _ hw => hw.sel [0, 1, 3, 4] (by decide) rfl) (Zc.fin (fun _ hw => hw))))) rfl rfl rfl (Y.build (cells := #[.int .i64 x3.Tx, .int .i64 x15]) rfl (by kernel_rfl)) ?_
                 refine V2.nilc (i := 16) (Nx2.of (Z := Cls w [] [.obj b12 [.bool true, .int .i64 (-1)] 152, .obj b10 [.bool false, .int .i64 0] 152, .ss (zs Ttx.sds gq19 gl18), .sl gv3 152 2 (gl4.map TDid.row)]) [] (by kernel_rfl) rfl (Zc.on (fun _ hw => hw.sel [0, 1, 3, 5] (by decide) rfl) (Zc.on (fun _ hw => hw.sel [0, 1, 3, 4] (by decide) rfl) (Zc.fin (fun _ hw => hw))))) rfl rfl rfl ?_
                 refine V2.y (i := 17) (Nx2.of (Z := Cls w [] [.obj b12 [.bool true, .int .i64 (-1)] 152, .obj b10 [.bool false, .int .i64 0] 152, .ss (zs Ttx.sds gq19 gl18), .sl gv3 152 2 (gl4.map TDid.row)]) [] (by kernel_rfl) rfl (Zc.on (fun _ hw => hw.sel [0, 1, 3, 5] (by decide) rfl) (Zc.on (fun _ hw => hw.sel [0, 1, 3, 4] (by decide) rfl) (Zc.fin (fun _ hw => hw))))) rfl rfl rfl (Y.fieldP fd206_2 rfl) ?_
                 refine V2.eff (i := 14) (by kernel_rfl) rfl ?_
                 refine L.litAgg rfl Try.underlying203 el235 rfl rfl rfl ?_
                 intro b38
                 refine L.nil (E.toV2 (stC [[15, 19], [19]] [Cls w [] [.sl (sv b38 1) 235 2 (([(⟨x3.Tx, x15⟩ : Tversion)]).map Tversion.row), .obj b12 [.bool true, .int .i64 (-1)] 152, .obj b10 [.bool false, .int .i64 0] 152, .obj b1 (List.flatten [(zr Ttx.rowv gq19 gl18).flatten, [.int .i64 x15], (zr svRow gq37 gl36).flatten]) 206, .ss (zs Ttx.sds gq19 gl18), .ss (zs (svSd 235 2 Tversion.row) gq37 gl36), .sl gv3 152 2 (gl4.map TDid.row)], Cls w [] [.sl (sv b38 1) 235 2 (([(⟨x3.Tx, x15⟩ : Tversion)]).map Tversion.row), .obj b12 [.bool true, .int .i64 (-1)] 152, .obj b10 [.bool false, .int .i64 0] 152, .obj b1 (List.flatten [(zr Ttx.rowv gq19 gl18).flatten, [.int .i64 x15], (zr svRow gq37 gl36).flatten]) 206, .ss (zs Ttx.sds gq19 gl18), .sl gv3 152 2 (gl4.map TDid.row)]] (Cls w [] [.sl (sv b38 1) 235 2 (([(⟨x3.Tx, x15⟩ : Tversion)]).map Tversion.row), .obj b12 [.bool true, .int .i64 (-1)] 152, .obj b10 [.bool false, .int .i64 0] 152, .ss (zs Ttx.sds gq19 gl18), .sl gv3 152 2 (gl4.map TDid.row)])) 14 (by kernel_rfl) (Sc.stay (fun _ hw => hw.sel [1, 2, 3, 4, 5, 6] (by decide) rfl) (Sc.stay (fun _ hw => hw.sel [1, 2, 3, 4, 5] (by decide) rfl) (Sc.stayD (fun _ hw => hw.sel [1, 2, 3, 4] (by decide) rfl)))) (Sc.now (by kernel_rfl) (fun _ hw => hw)) ?_)
                 refine V2.eff (i := 15) (by kernel_rfl) rfl ?_
                 refine L.ssOut (sds := (svSd 235 2 Tversion.row)) (vs := gq37) (s := 5) (j := 0) (c := 1) rfl (fun _ _ => rfl) (idxA_idx ex37) rfl ?_
                 refine L.appM (i := 0) (g := Tversion.row) (l := x37) (more := [(⟨x3.Tx, x15⟩ : Tversion)]) h rfl Try.underlying203 el235 rfl rfl rfl (fun w hw => As.at_ (hw.get (i := 1) rfl)) (plain_Tversion _) rfl ?_
                 intro v39 l40 el40 h
                 refine L.nil (E.toV2 (stC [[19]] [Cls w [] [.sl v39 235 2 (l40.map Tversion.row), .sl (sv b38 1) 235 2 (([(⟨x3.Tx, x15⟩ : Tversion)]).map Tversion.row), .obj b12 [.bool true, .int .i64 (-1)] 152, .obj b10 [.bool false, .int .i64 0] 152, .obj b1 (List.flatten [(zr Ttx.rowv gq19 gl18).flatten, [.int .i64 x15], (zr svRow gq37 gl36).flatten]) 206, .ss (zs Ttx.sds gq19 gl18), .sl gv3 152 2 (gl4.map TDid.row)]] (Cls w [] [.sl (sv b38 1) 235 2 (([(⟨x3.Tx, x15⟩ : Tversion)]).map Tversion.row), .obj b12 [.bool true, .int .i64 (-1)] 152, .obj b10 [.bool false, .int .i64 0] 152, .ss (zs Ttx.sds gq19 gl18), .sl gv3 152 2 (gl4.map TDid.row)])) 15 (by kernel_rfl) (Sc.past rfl (Sc.stay (fun _ hw => hw.sel [1, 2, 3, 4, 5, 6] (by decide) rfl) (Sc.stayD (fun _ hw => hw)))) (Sc.now (by kernel_rfl) (fun _ hw => hw.sel [0, 1, 2, 3, 4, 5, 7] (by decide) rfl)) ?_)
                 refine V2.m (i := 18) (V' := fun _ => pt b1 (37 + x18.toNat * 1)) h (Nx2.of (Z := Cls w [] [.sl v39 235 2 (l40.map Tversion.row), .sl (sv b38 1) 235 2 (([(⟨x3.Tx, x15⟩ : Tversion)]).map Tversion.row), .obj b12 [.bool true, .int .i64 (-1)] 152, .obj b10 [.bool false, .int .i64 0] 152, .obj b1 (List.flatten [(zr Ttx.rowv gq19 gl18).flatten, [.int .i64 x15], (zr svRow gq37 gl36).flatten]) 206, .ss (zs Ttx.sds gq19 gl18), .sl gv3 152 2 (gl4.map TDid.row)]) [19] (by kernel_rfl) rfl (Zc.at1 (fun _ hw => hw))) rfl rfl rfl (Y.indexAS (l := gl36) Try.underlying204 sz203 rfl rfl) (fun x41 ex41 h => ?_)
                 refine V2.eff (i := 19) (by kernel_rfl) rfl ?_
                 refine L.storeZSg (si := 2) (ps := 37) (row := svRow) (sds := (svSd 235 2 Tversion.row)) (vs := gq37) (q := 4) (p := 0) (s := 6) (c := 1) (jj := 0) (u1 := l40) (v1 := [v39]) (j := 0) h sz203 rfl rfl rfl rfl rfl (sl1 (a := 36) (p := 1) (zrN (nn := 12) (k := 3) (fun _ _ => rfl) en14) (sl1 (a := 1) (p := 0) rfl sl0)) rfl rfl (.inr rfl) (fun _ _ => rfl) (fun _ _ => rfl) (idxA_idx ex41) rfl rfl rfl rfl ?_
                 intro l42 q43 el42 h
                 refine L.nil (E.toV2 (stC [] [] (Cls w [] [.sl (sv b38 1) 235 2 (([(⟨x3.Tx, x15⟩ : Tversion)]).map Tversion.row), .obj b12 [.bool true, .int .i64 (-1)] 152, .obj b10 [.bool false, .int .i64 0] 152, .ss (zs Ttx.sds gq19 gl18), .sl gv3 152 2 (gl4.map TDid.row)])) 19 (by kernel_rfl) (Sc.past rfl (Sc.stayD (fun _ hw => hw))) (Sc.atD (fun _ hw => hw.sel [0, 1, 2, 4, 6] (by decide) rfl)) ?_)
                 refine V2.done (by kernel_rfl) ?_
                 refine E.blockN (E.thenN (W.region (L.m (V := fun x44 => .int .i64 x44) h rfl (Y.addM rfl rfl) (fun x44 ex44 h => ?_))))
                 refine L.y rfl (Y.move rfl) ?_
                 exact L.nil (E.againJ ⟨x44, l42, q43, rfl, rfl, by rw [hg2]; exact h⟩ (Nat.lt_succ_self _) ⟨rfl, rfl, rfl, rfl, rfl, trivial⟩ (fun _ hw => hw.sel [1, 2, 3, 4, 5, 6] (by decide) rfl))
                ·
                 refine L.nil (E.thenN (W.seq (W.condF rfl ?_)))
                 exact W.exit (E.thenX (E.KLX (E.blockX (E.joinJ ⟨gl36, gq37, rfl, rfl, h⟩ trivial (fun _ hw => hw)))))
               ·
                rintro _ _ ⟨gl33, gq34, rfl, rfl, h⟩
                rw [m95_snap_Play_K10] at h
                refine W.seq (W.region (L.y rfl (Y.assign rfl) ?_))
                refine L.nil (E.thenN (W.ret (E.ret1 rfl rfl (fun w1 hw => ?_))))
                exact ⟨_, _, rfl, ⟨true, x15, gl33, gq34, rfl, rfl, h⟩, hw⟩
             ·
              rintro _ _ ⟨gb29, gx30, gl31, gq32, rfl, rfl, h⟩
              rw [m95_snap_Play_K8] at h
              refine L.y rfl (Y.fieldP fd152_0 rfl) ?_
              refine L.store (i := 0) sz4 rfl rfl rfl rfl (by simp [Value.oneCell', Value.cells, st, pt]) rfl (Nat.le_of_ble_eq_true rfl) ?_
              exact L.nil (E.blockN (E.joinJ ⟨gb29, (-1), gl18, gq19, gx30, gl31, gq32, rfl, rfl, h⟩ ⟨rfl, rfl, trivial⟩ (fun _ hw => hw)))
            ·
             refine L.y rfl (Y.assign rfl) ?_
             refine L.nil (E.thenN (W.condF rfl ?_))
             exact W.skip (E.blockN (E.joinJ ⟨true, (-1), gl18, gq19, gx8, gl9, gq10, rfl, rfl, h⟩ ⟨rfl, rfl, trivial⟩ (fun _ hw => hw.sel [0, 1, 3, 4, 5, 6] (by decide) rfl)))
           ·
            replace h := iteT h
            refine W.condT rfl ?_
            refine W.seq (W.quietC mixed (by kernel_rfl) (fun _ hw => hw.drew) (fun hC => ?_))
            refine U.y rfl (Y.move rfl) ?_
            refine U.y rfl (Y.nilCheck rfl) ?_
            refine U.y rfl (Y.fieldP fd201_2 rfl) ?_
            obtain ⟨x57, ex57, h⟩ := bind1S h
            refine U.y rfl (Y.loadZg (si := 0) (ps := 0) (q := 3) (row := Ttx.rowv) (vs := gq19) (j := 2) (pv := gv (gq19 x3.Tx.toNat) 0) ag24 rfl rfl rfl rfl sl0 (fun _ _ => rfl) ex57 rfl) ?_
            refine U.y rfl (Y.fieldP fd164_2 rfl) ?_
            refine U.y rfl (Y.loadP (i := 2) ag3 rfl rfl rfl) ?_
            obtain ⟨b58, e59, h⟩ := bind1S h
            refine U.y rfl (Y.does en134 rfl (fun w' hw => (w134_slices_Contains_int x57.writes_ x3.Item (gv (gq19 x3.Tx.toNat) 0) w' _ e59 (As.atZ (sds := Ttx.sds) (vs := gq19) (j := 0) (c := 1) (hw.get (i := 4) rfl) (fun _ _ => rfl) ex57 rfl)).mono (fun _ _ h => h.1))) ?_
            rcases b58 with _ | _
            ·
             replace h := iteF h
             refine U.y rfl (Y.not rfl) ?_
             refine U.nil (E.thenN (W.condT rfl ?_))
             refine W.drawn2 (k := 12) (stC [[8, 11], [11]] [Cls w [] [.obj b12 [.bool true, .int .i64 (-1)] 152, .obj b10 [.bool false, .int .i64 0] 152, .obj b9 [.int .i64 x3.Tx, .int .i64 x3.Kind, .int .i64 x3.Item] 164, .obj b1 (List.flatten [(zr Ttx.rowv gq19 gl18).flatten, [.int .i64 gx8], (zr svRow gq10 gl9).flatten]) 206, .ss (zs Ttx.sds gq19 gl18), .ss (zs (svSd 235 2 Tversion.row) gq10 gl9), .sl gv3 152 2 (gl4.map TDid.row)], Cls w [] [.obj b12 [.bool true, .int .i64 (-1)] 152, .obj b10 [.bool false, .int .i64 0] 152, .obj b9 [.int .i64 x3.Tx, .int .i64 x3.Kind, .int .i64 x3.Item] 164, .obj b1 (List.flatten [(zr Ttx.rowv gq19 gl18).flatten, [.int .i64 gx8], (zr svRow gq10 gl9).flatten]) 206, .ss (zs (svSd 235 2 Tversion.row) gq10 gl9), .sl gv3 152 2 (gl4.map TDid.row)]] (Cls w [] [.obj b12 [.bool true, .int .i64 (-1)] 152, .obj b10 [.bool false, .int .i64 0] 152, .obj b9 [.int .i64 x3.Tx, .int .i64 x3.Kind, .int .i64 x3.Item] 164, .ss (zs (svSd 235 2 Tversion.row) gq10 gl9), .sl gv3 152 2 (gl4.map TDid.row)])) rfl mixed (fun _ hw => hw.drew) (Sc.now (by kernel_rfl) (fun _ hw => hw)) ?_
             refine V2.y (i := 0) (Nx2.of (Z := Cls w [] [.obj b12 [.bool true, .int .i64 (-1)] 152, .obj b10 [.bool false, .int .i64 0] 152, .obj b9 [.int .i64 x3.Tx, .int .i64 x3.Kind, .int .i64 x3.Item] 164, .ss (zs (svSd 235 2 Tversion.row) gq10 gl9), .sl gv3 152 2 (gl4.map TDid.row)]) [] (by kernel_rfl) rfl (Zc.on (fun _ hw => hw.sel [0, 1, 2, 5, 6] (by decide) rfl) (Zc.on (fun _ hw => hw.sel [0, 1, 2, 4, 5] (by decide) rfl) (Zc.fin (fun _ hw => hw))))) rfl rfl rfl (Y.move rfl) ?_
             refine V2.y (i := 1) (Nx2.of (Z := Cls w [] [.obj b12 [.bool true, .int .i64 (-1)] 152, .obj b10 [.bool false, .int .i64 0] 152, .obj b9 [.int .i64 x3.Tx, .int .i64 x3.Kind, .int .i64 x3.Item] 164, .ss (zs (svSd 235 2 Tversion.row) gq10 gl9), .sl gv3 152 2 (gl4.map TDid.row)]) [] (by kernel_rfl) rfl (Zc.on (fun _ hw => hw.sel [0, 1, 2, 5, 6] (by decide) rfl) (Zc.on (fun _ hw => hw.sel [0, 1, 2, 4, 5] (by decide) rfl) (Zc.fin (fun _ hw => hw))))) rfl rfl rfl (Y.move rfl) ?_
             refine V2.nilc (i := 2) (Nx2.of (Z := Cls w [] [.obj b12 [.bool true, .int .i64 (-1)] 152, .obj b10 [.bool false, .int .i64 0] 152, .obj b9 [.int .i64 x3.Tx, .int .i64 x3.Kind, .int .i64 x3.Item] 164, .ss (zs (svSd 235 2 Tversion.row) gq10 gl9), .sl gv3 152 2 (gl4.map TDid.row)]) [] (by kernel_rfl) rfl (Zc.on (fun _ hw => hw.sel [0, 1, 2, 5, 6] (by decide) rfl) (Zc.on (fun _ hw => hw.sel [0, 1, 2, 4, 5] (by decide) rfl) (Zc.fin (fun _ hw => hw))))) rfl rfl rfl ?_
             refine V2.y (i := 3) (Nx2.of (Z := Cls w [] [.obj b12 [.bool true, .int .i64 (-1)] 152, .obj b10 [.bool false, .int .i64 0] 152, .obj b9 [.int .i64 x3.Tx, .int .i64 x3.Kind, .int .i64 x3.Item] 164, .ss (zs (svSd 235 2 Tversion.row) gq10 gl9), .sl gv3 152 2 (gl4.map TDid.row)]) [] (by kernel_rfl) rfl (Zc.on (fun _ hw => hw.sel [0, 1, 2, 5, 6] (by decide) rfl) (Zc.on (fun _ hw => hw.sel [0, 1, 2, 4, 5] (by decide) rfl) (Zc.fin (fun _ hw => hw))))) rfl rfl rfl (Y.fieldP fd201_2 rfl) ?_
             obtain ⟨x78, ex78, h⟩ := bind1S h
             refine V2.y (i := 4) (Nx2.of (Z := Cls w [] [.obj b12 [.bool true, .int .i64 (-1)] 152, .obj b10 [.bool false, .int .i64 0] 152, .obj b9 [.int .i64 x3.Tx, .int .i64 x3.Kind, .int .i64 x3.Item] 164, .obj b1 (List.flatten [(zr Ttx.rowv gq19 gl18).flatten, [.int .i64 gx8], (zr svRow gq10 gl9).flatten]) 206, .ss (zs (svSd 235 2 Tversion.row) gq10 gl9), .sl gv3 152 2 (gl4.map TDid.row)]) [11] (by kernel_rfl) rfl (Zc.on (fun _ hw => hw.sel [0, 1, 2, 3, 5, 6] (by decide) rfl) (Zc.at1 (fun _ hw => hw)))) rfl rfl rfl (Y.loadZg (si := 0) (ps := 0) (q := 3) (row := Ttx.rowv) (vs := gq19) (j := 2) (pv := gv (gq19 x3.Tx.toNat) 0) ag24 rfl rfl rfl rfl sl0 (fun _ _ => rfl) ex78 rfl) ?_
             refine V2.y (i := 5) (Nx2.of (Z := Cls w [] [.obj b12 [.bool true, .int .i64 (-1)] 152, .obj b10 [.bool false, .int .i64 0] 152, .obj b9 [.int .i64 x3.Tx, .int .i64 x3.Kind, .int .i64 x3.Item] 164, .ss (zs (svSd 235 2 Tversion.row) gq10 gl9), .sl gv3 152 2 (gl4.map TDid.row)]) [] (by kernel_rfl) rfl (Zc.on (fun _ hw => hw.sel [0, 1, 2, 5, 6] (by decide) rfl) (Zc.on (fun _ hw => hw.sel [0, 1, 2, 4, 5] (by decide) rfl) (Zc.fin (fun _ hw => hw))))) rfl rfl rfl (Y.fieldP fd164_2 rfl) ?_
             refine V2.y (i := 6) (Nx2.of (Z := Cls w [] [.obj b12 [.bool true, .int .i64 (-1)] 152, .obj b10 [.bool false, .int .i64 0] 152, .obj b9 [.int .i64 x3.Tx, .int .i64 x3.Kind, .int .i64 x3.Item] 164, .ss (zs (svSd 235 2 Tversion.row) gq10 gl9), .sl gv3 152 2 (gl4.map TDid.row)]) [] (by kernel_rfl) rfl (Zc.on (fun _ hw => hw.sel [0, 1, 2, 5, 6] (by decide) rfl) (Zc.on (fun _ hw => hw.sel [0, 1, 2, 4, 5] (by decide) rfl) (Zc.fin (fun _ hw => hw))))) rfl rfl rfl (Y.loadP (i := 2) ag3 rfl rfl rfl) ?_
             refine V2.eff (i := 7) (by kernel_rfl) rfl ?_
             refine L.litOne rfl Try.underlying24 el3 rfl rfl ?_
             intro b79
             refine L.nil (E.toV2 (stC [[8, 11], [11]] [Cls w [] [.sl (sv b79 1) 3 1 (([x3.Item]).map I), .obj b12 [.bool true, .int .i64 (-1)] 152, .obj b10 [.bool false, .int .i64 0] 152, .obj b9 [.int .i64 x3.Tx, .int .i64 x3.Kind, .int .i64 x3.Item] 164, .obj b1 (List.flatten [(zr Ttx.rowv gq19 gl18).flatten, [.int .i64 gx8], (zr svRow gq10 gl9).flatten]) 206, .ss (zs Ttx.sds gq19 gl18), .ss (zs (svSd 235 2 Tversion.row) gq10 gl9), .sl gv3 152 2 (gl4.map TDid.row)], Cls w [] [.sl (sv b79 1) 3 1 (([x3.Item]).map I), .obj b12 [.bool true, .int .i64 (-1)] 152, .obj b10 [.bool false, .int .i64 0] 152, .obj b9 [.int .i64 x3.Tx, .int .i64 x3.Kind, .int .i64 x3.Item] 164, .obj b1 (List.flatten [(zr Ttx.rowv gq19 gl18).flatten, [.int .i64 gx8], (zr svRow gq10 gl9).flatten]) 206, .ss (zs (svSd 235 2 Tversion.row) gq10 gl9), .sl gv3 152 2 (gl4.map TDid.row)]] (Cls w [] [.sl (sv b79 1) 3 1 (([x3.Item]).map I), .obj b12 [.bool true, .int .i64 (-1)] 152, .obj b10 [.bool false, .int .i64 0] 152, .obj b9 [.int .i64 x3.Tx, .int .i64 x3.Kind, .int .i64 x3.Item] 164, .ss (zs (svSd 235 2 Tversion.row) gq10 gl9), .sl gv3 152 2 (gl4.map TDid.row)])) 7 (by kernel_rfl) (Sc.stay (fun _ hw => hw.sel [1, 2, 3, 4, 5, 6, 7] (by decide) rfl) (Sc.stay (fun _ hw => hw.sel [1, 2, 3, 4, 5, 6] (by decide) rfl) (Sc.stayD (fun _ hw => hw.sel [1, 2, 3, 4, 5] (by decide) rfl)))) (Sc.now (by kernel_rfl) (fun _ hw => hw)) ?_)
             refine V2.eff (i := 8) (by kernel_rfl) rfl ?_
             refine L.ssOut (sds := Ttx.sds) (vs := gq19) (s := 5) (j := 0) (c := 1) rfl (fun _ _ => rfl) ex78 rfl ?_
             refine L.appM (i := 0) (g := I) (l := x78.writes_) (more := [x3.Item]) h rfl Try.underlying24 el3 rfl rfl rfl (fun w hw => As.at_ (hw.get (i := 1) rfl)) (plain_ints _) rfl ?_
             intro v80 l81 el81 h
             refine L.nil (E.toV2 (stC [[11]] [Cls w [] [.sl v80 3 1 (l81.map I), .sl (sv b79 1) 3 1 (([x3.Item]).map I), .obj b12 [.bool true, .int .i64 (-1)] 152, .obj b10 [.bool false, .int .i64 0] 152, .obj b9 [.int .i64 x3.Tx, .int .i64 x3.Kind, .int .i64 x3.Item] 164, .obj b1 (List.flatten [(zr Ttx.rowv gq19 gl18).flatten, [.int .i64 gx8], (zr svRow gq10 gl9).flatten]) 206, .ss (zs (svSd 235 2 Tversion.row) gq10 gl9), .sl gv3 152 2 (gl4.map TDid.row)]] (Cls w [] [.sl (sv b79 1) 3 1 (([x3.Item]).map I), .obj b12 [.bool true, .int .i64 (-1)] 152, .obj b10 [.bool false, .int .i64 0] 152, .obj b9 [.int .i64 x3.Tx, .int .i64 x3.Kind, .int .i64 x3.Item] 164, .ss (zs (svSd 235 2 Tversion.row) gq10 gl9), .sl gv3 152 2 (gl4.map TDid.row)])) 8 (by kernel_rfl) (Sc.past rfl (Sc.stay (fun _ hw => hw.sel [1, 2, 3, 4, 5, 6, 7] (by decide) rfl) (Sc.stayD (fun _ hw => hw)))) (Sc.now (by kernel_rfl) (fun _ hw => hw.sel [0, 1, 2, 3, 4, 5, 7, 8] (by decide) rfl)) ?_)
             refine V2.nilc (i := 9) (Nx2.of (Z := Cls w [] [.sl (sv b79 1) 3 1 (([x3.Item]).map I), .obj b12 [.bool true, .int .i64 (-1)] 152, .obj b10 [.bool false, .int .i64 0] 152, .obj b9 [.int .i64 x3.Tx, .int .i64 x3.Kind, .int .i64 x3.Item] 164, .ss (zs (svSd 235 2 Tversion.row) gq10 gl9), .sl gv3 152 2 (gl4.map TDid.row)]) [] (by kernel_rfl) rfl (Zc.on (fun _ hw => hw.sel [1, 2, 3, 4, 6, 7] (by decide) rfl) (Zc.fin (fun _ hw => hw)))) rfl rfl rfl ?_
             refine V2.y (i := 10) (Nx2.of (Z := Cls w [] [.sl (sv b79 1) 3 1 (([x3.Item]).map I), .obj b12 [.bool true, .int .i64 (-1)] 152, .obj b10 [.bool false, .int .i64 0] 152, .obj b9 [.int .i64 x3.Tx, .int .i64 x3.Kind, .int .i64 x3.Item] 164, .ss (zs (svSd 235 2 Tversion.row) gq10 gl9), .sl gv3 152 2 (gl4.map TDid.row)]) [] (by kernel_rfl) rfl (Zc.on (fun _ hw => hw.sel [1, 2, 3, 4, 6, 7] (by decide) rfl) (Zc.fin (fun _ hw => hw)))) rfl rfl rfl (Y.fieldP fd201_2 rfl) ?_
             refine V2.eff (i := 11) (by kernel_rfl) rfl ?_
             obtain ⟨x82, ex82, h⟩ := bind1S h
             refine L.storeZSg (si := 0) (ps := 0) (row := Ttx.rowv) (sds := Ttx.sds) (vs := gq19) (q := 5) (p := 0) (s := 6) (c := 1) (jj := 0) (u1 := (⟨x82.began_, x82.from_, l81⟩ : Ttx)) (v1 := [v80]) (j := 2) h sz24 rfl rfl rfl rfl rfl sl0 rfl rfl (.inr rfl) (fun _ _ => rfl) (fun _ _ => rfl) ex82 rfl rfl rfl rfl ?_
             intro l83 q84 el83 h
             refine L.nil (E.toV2 (stC [] [] (Cls w [] [.sl (sv b79 1) 3 1 (([x3.Item]).map I), .obj b12 [.bool true, .int .i64 (-1)] 152, .obj b10 [.bool false, .int .i64 0] 152, .obj b9 [.int .i64 x3.Tx, .int .i64 x3.Kind, .int .i64 x3.Item] 164, .ss (zs (svSd 235 2 Tversion.row) gq10 gl9), .sl gv3 152 2 (gl4.map TDid.row)])) 11 (by kernel_rfl) (Sc.past rfl (Sc.stayD (fun _ hw => hw))) (Sc.atD (fun _ hw => hw.sel [0, 1, 2, 3, 6, 7] (by decide) rfl)) ?_)
             refine V2.done (by kernel_rfl) ?_
             exact E.blockN (E.joinJ ⟨true, (-1), l83, q84, gx8, gl9, gq10, rfl, rfl, h⟩ ⟨rfl, rfl, trivial⟩ (fun _ hw => hw.sel [1, 2, 4, 5, 6, 7] (by decide) rfl))
            ·
             replace h := iteT h
             refine U.y rfl (Y.not rfl) ?_
             refine U.nil (E.thenN (W.condF rfl ?_))
             exact W.skip (E.blockN (E.joinJ ⟨true, (-1), gl18, gq19, gx8, gl9, gq10, rfl, rfl, h⟩ ⟨rfl, rfl, trivial⟩ (fun _ hw => hw.sel [0, 1, 3, 4, 5, 6] (by decide) rfl)))
         ·
          replace h := iteT h
          refine W.condT rfl ?_
          refine W.seq (W.drawn2 (k := 10) (stC [[9]] [Cls w [] [.obj b12 [.bool true, .int .i64 (-1)] 152, .obj b10 [.bool false, .int .i64 0] 152, .obj b9 [.int .i64 x3.Tx, .int .i64 x3.Kind, .int .i64 x3.Item] 164, .obj b1 (List.flatten [(zr Ttx.rowv gq19 gl18).flatten, [.int .i64 gx8], (zr svRow gq10 gl9).flatten]) 206, .ss (zs Ttx.sds gq19 gl18), .ss (zs (svSd 235 2 Tversion.row) gq10 gl9), .sl gv3 152 2 (gl4.map TDid.row)]] (Cls w [] [.obj b10 [.bool false, .int .i64 0] 152, .obj b9 [.int .i64 x3.Tx, .int .i64 x3.Kind, .int .i64 x3.Item] 164, .obj b1 (List.flatten [(zr Ttx.rowv gq19 gl18).flatten, [.int .i64 gx8], (zr svRow gq10 gl9).flatten]) 206, .ss (zs Ttx.sds gq19 gl18), .ss (zs (svSd 235 2 Tversion.row) gq10 gl9), .sl gv3 152 2 (gl4.map TDid.row)])) rfl mixed (fun _ hw => hw.drew) (Sc.now (by kernel_rfl) (fun _ hw => hw)) ?_)
          refine V2.y (i := 0) (Nx2.of (Z := Cls w [] [.obj b10 [.bool false, .int .i64 0] 152, .obj b9 [.int .i64 x3.Tx, .int .i64 x3.Kind, .int .i64 x3.Item] 164, .obj b1 (List.flatten [(zr Ttx.rowv gq19 gl18).flatten, [.int .i64 gx8], (zr svRow gq10 gl9).flatten]) 206, .ss (zs Ttx.sds gq19 gl18), .ss (zs (svSd 235 2 Tversion.row) gq10 gl9), .sl gv3 152 2 (gl4.map TDid.row)]) [] (by kernel_rfl) rfl (Zc.on (fun _ hw => hw.sel [1, 2, 3, 4, 5, 6] (by decide) rfl) (Zc.fin (fun _ hw => hw)))) rfl rfl rfl (Y.move rfl) ?_
          refine V2.y (i := 1) (Nx2.of (Z := Cls w [] [.obj b10 [.bool false, .int .i64 0] 152, .obj b9 [.int .i64 x3.Tx, .int .i64 x3.Kind, .int .i64 x3.Item] 164, .obj b1 (List.flatten [(zr Ttx.rowv gq19 gl18).flatten, [.int .i64 gx8], (zr svRow gq10 gl9).flatten]) 206, .ss (zs Ttx.sds gq19 gl18), .ss (zs (svSd 235 2 Tversion.row) gq10 gl9), .sl gv3 152 2 (gl4.map TDid.row)]) [] (by kernel_rfl) rfl (Zc.on (fun _ hw => hw.sel [1, 2, 3, 4, 5, 6] (by decide) rfl) (Zc.fin (fun _ hw => hw)))) rfl rfl rfl (Y.fieldP fd164_2 rfl) ?_
          refine V2.y (i := 2) (Nx2.of (Z := Cls w [] [.obj b10 [.bool false, .int .i64 0] 152, .obj b9 [.int .i64 x3.Tx, .int .i64 x3.Kind, .int .i64 x3.Item] 164, .obj b1 (List.flatten [(zr Ttx.rowv gq19 gl18).flatten, [.int .i64 gx8], (zr svRow gq10 gl9).flatten]) 206, .ss (zs Ttx.sds gq19 gl18), .ss (zs (svSd 235 2 Tversion.row) gq10 gl9), .sl gv3 152 2 (gl4.map TDid.row)]) [] (by kernel_rfl) rfl (Zc.on (fun _ hw => hw.sel [1, 2, 3, 4, 5, 6] (by decide) rfl) (Zc.fin (fun _ hw => hw)))) rfl rfl rfl (Y.loadP (i := 1) ag3 rfl rfl rfl) ?_
          refine V2.y (i := 3) (Nx2.of (Z := Cls w [] [.obj b10 [.bool false, .int .i64 0] 152, .obj b9 [.int .i64 x3.Tx, .int .i64 x3.Kind, .int .i64 x3.Item] 164, .obj b1 (List.flatten [(zr Ttx.rowv gq19 gl18).flatten, [.int .i64 gx8], (zr svRow gq10 gl9).flatten]) 206, .ss (zs Ttx.sds gq19 gl18), .ss (zs (svSd 235 2 Tversion.row) gq10 gl9), .sl gv3 152 2 (gl4.map TDid.row)]) [] (by kernel_rfl) rfl (Zc.on (fun _ hw => hw.sel [1, 2, 3, 4, 5, 6] (by decide) rfl) (Zc.fin (fun _ hw => hw)))) rfl rfl rfl (Y.move rfl) ?_
          refine V2.nilc (i := 4) (Nx2.of (Z := Cls w [] [.obj b10 [.bool false, .int .i64 0] 152, .obj b9 [.int .i64 x3.Tx, .int .i64 x3.Kind, .int .i64 x3.Item] 164, .obj b1 (List.flatten [(zr Ttx.rowv gq19 gl18).flatten, [.int .i64 gx8], (zr svRow gq10 gl9).flatten]) 206, .ss (zs Ttx.sds gq19 gl18), .ss (zs (svSd 235 2 Tversion.row) gq10 gl9), .sl gv3 152 2 (gl4.map TDid.row)]) [] (by kernel_rfl) rfl (Zc.on (fun _ hw => hw.sel [1, 2, 3, 4, 5, 6] (by decide) rfl) (Zc.fin (fun _ hw => hw)))) rfl rfl rfl ?_
          refine V2.y (i := 5) (Nx2.of (Z := Cls w [] [.obj b10 [.bool false, .int .i64 0] 152, .obj b9 [.int .i64 x3.Tx, .int .i64 x3.Kind, .int .i64 x3.Item] 164, .obj b1 (List.flatten [(zr Ttx.rowv gq19 gl18).flatten, [.int .i64 gx8], (zr svRow gq10 gl9).flatten]) 206, .ss (zs Ttx.sds gq19 gl18), .ss (zs (svSd 235 2 Tversion.row) gq10 gl9), .sl gv3 152 2 (gl4.map TDid.row)]) [] (by kernel_rfl) rfl (Zc.on (fun _ hw => hw.sel [1, 2, 3, 4, 5, 6] (by decide) rfl) (Zc.fin (fun _ hw => hw)))) rfl rfl rfl (Y.fieldP fd201_1 rfl) ?_
          obtain ⟨x87, ex87, h⟩ := bind1S h
          refine V2.y (i := 6) (Nx2.of (Z := Cls w [] [.obj b10 [.bool false, .int .i64 0] 152, .obj b9 [.int .i64 x3.Tx, .int .i64 x3.Kind, .int .i64 x3.Item] 164, .obj b1 (List.flatten [(zr Ttx.rowv gq19 gl18).flatten, [.int .i64 gx8], (zr svRow gq10 gl9).flatten]) 206, .ss (zs Ttx.sds gq19 gl18), .ss (zs (svSd 235 2 Tversion.row) gq10 gl9), .sl gv3 152 2 (gl4.map TDid.row)]) [] (by kernel_rfl) rfl (Zc.on (fun _ hw => hw.sel [1, 2, 3, 4, 5, 6] (by decide) rfl) (Zc.fin (fun _ hw => hw)))) rfl rfl rfl (Y.loadZg (si := 0) (ps := 0) (q := 2) (row := Ttx.rowv) (vs := gq19) (j := 1) (pv := .int .i64 x87.from_) ag3 rfl rfl rfl rfl sl0 (fun _ _ => rfl) ex87 rfl) ?_
          refine V2.eff (i := 7) (by kernel_rfl) rfl ?_
          refine L.callJ (fun v D => ∃ (gx41 : Int), v = .int .i64 gx41 ∧ D = Cls w [] [.obj b12 [.bool true, .int .i64 (-1)] 152, .obj b10 [.bool false, .int .i64 0] 152, .obj b9 [.int .i64 x3.Tx, .int .i64 x3.Kind, .int .i64 x3.Item] 164, .obj b1 (List.flatten [(zr Ttx.rowv gq19 gl18).flatten, [.int .i64 gx8], (zr svRow gq10 gl9).flatten]) 206, .ss (zs Ttx.sds gq19 gl18), .ss (zs (svSd 235 2 Tversion.row) gq10 gl9), .sl gv3 152 2 (gl4.map TDid.row)] ∧ m95_snap_Play_K12 gl18 x3 gl4 gx5 go1 gx8 gl9 gx41 = some r) rfl en153 rfl Try.func153 rfl rfl rfl ?_ ?_
          ·
           refine W.seq (W.region (L.y rfl (Y.assign rfl) ?_))
           refine L.nil (E.thenN (W.seq (W.region (L.y rfl (Y.assign rfl) ?_))))
           refine L.nil (E.thenN (W.seqJ (fun gs D => ∃ (gx42 : Int), gs = [(7, .int .i64 gx42)] ∧ D = Cls w [] [.obj b12 [.bool true, .int .i64 (-1)] 152, .obj b10 [.bool false, .int .i64 0] 152, .obj b9 [.int .i64 x3.Tx, .int .i64 x3.Kind, .int .i64 x3.Item] 164, .obj b1 (List.flatten [(zr Ttx.rowv gq19 gl18).flatten, [.int .i64 gx8], (zr svRow gq10 gl9).flatten]) 206, .ss (zs Ttx.sds gq19 gl18), .ss (zs (svSd 235 2 Tversion.row) gq10 gl9), .sl gv3 152 2 (gl4.map TDid.row)] ∧ m95_snap_Play_K13 gl18 x3 gl4 gx5 go1 gx8 gl9 gx42 = some r) ?_ ?_))
           ·
            refine W.seq (W.region (L.y rfl (Y.move rfl) ?_))
            refine L.y rfl (Y.move rfl) ?_
            refine L.y rfl (Y.nilCheck rfl) ?_
            refine L.y rfl (Y.fieldP fd206_2 rfl) ?_
            refine L.m (V := fun _ => pt b1 (37 + x3.Item.toNat * 1)) h rfl (Y.indexAS (l := gl9) Try.underlying204 sz203 rfl rfl) (fun x91 ex91 h => ?_)
            obtain ⟨_, en92, h⟩ := bind1S h
            obtain ⟨_, en92⟩ := arrN_some en92
            refine L.y rfl (Y.loadZg (si := 2) (ps := 37) (q := 3) (row := svRow) (vs := gq10) (j := 0) (pv := gv (gq10 x3.Item.toNat) 0) ag203 rfl rfl rfl rfl (sl1 (a := 36) (p := 1) (zrN (nn := 12) (k := 3) (fun _ _ => rfl) en92) (sl1 (a := 1) (p := 0) rfl sl0)) (fun _ _ => rfl) (idxA_idx ex91) rfl) ?_
            refine L.y rfl (Y.lenM (g := Tversion.row) (l := x91) Try.underlying203 rfl (fun w hw => As.atZ (sds := (svSd 235 2 Tversion.row)) (vs := gq10) (j := 0) (c := 1) (hw.get (i := 5) rfl) (fun _ _ => rfl) (idxA_idx ex91) rfl)) ?_
            refine L.y rfl (Y.move rfl) ?_
            refine L.nil (E.thenN (W.block (W.loopJ (fun m gs D => ∃ (gx43 : Int) (gx44 : Int), gs = [(2, .int .i64 x87.from_), (7, .int .i64 gx43), (15, gv (gq10 x3.Item.toNat) 0), (16, .int .i64 (x91.length : Int)), (17, .int .i64 gx44)] ∧ D = Cls w [] [.obj b12 [.bool true, .int .i64 (-1)] 152, .obj b10 [.bool false, .int .i64 0] 152, .obj b9 [.int .i64 x3.Tx, .int .i64 x3.Kind, .int .i64 x3.Item] 164, .obj b1 (List.flatten [(zr Ttx.rowv gq19 gl18).flatten, [.int .i64 gx8], (zr svRow gq10 gl9).flatten]) 206, .ss (zs Ttx.sds gq19 gl18), .ss (zs (svSd 235 2 Tversion.row) gq10 gl9), .sl gv3 152 2 (gl4.map TDid.row)] ∧ m95_snap_Play_L5 x91 x87 gl18 x3 gl4 gx5 go1 gx8 gl9 m gx43 gx44 = some r) ⟨(-1), 0, rfl, rfl, h⟩ ⟨rfl, rfl, rfl, rfl, rfl, trivial⟩ (fun _ hw => hw) ?_)))
            rintro m _ _ ⟨gx43, gx44, rfl, rfl, h⟩
            rcases m with _ | m
            · rw [m95_snap_Play_L5] at h; cases h
            rw [m95_snap_Play_L5] at h
            generalize hg5 : m95_snap_Play_L5 x91 x87 gl18 x3 gl4 gx5 go1 gx8 gl9 m = go5 at h
            rw [m95_snap_Play_L5B] at h
            refine W.seq (W.region (L.ite h rfl (Y.lss rfl rfl) (fun c93 h => ?_) (fun c93 h => ?_)))
            ·
             refine L.nil (E.thenN (W.seq (W.condT rfl ?_)))
             refine W.skip (E.thenN (W.seq (W.block (W.seq (W.region (L.m (V := fun _ => el (gv (gq10 x3.Item.toNat) 0) (gx44.toNat * 2)) h rfl (Y.indexM (g := Tversion.row) (l := x91) Try.underlying203 sz235 rfl rfl (fun w hw => As.atZ (sds := (svSd 235 2 Tversion.row)) (vs := gq10) (j := 0) (c := 1) (hw.get (i := 5) rfl) (fun _ _ => rfl) (idxA_idx ex91) rfl)) (fun x94 ex94 h => ?_)))))))
             refine L.y rfl (Y.loadEN (r := [.int .i64 x94.by_, .int .i64 x94.at_]) ag235 sz235 rfl (fun w hw => As.atZ (sds := (svSd 235 2 Tversion.row)) (vs := gq10) (j := 0) (c := 1) (hw.get (i := 5) rfl) (fun _ _ => rfl) (idxA_idx ex91) rfl) (idx_map ex94) rfl) ?_
             refine L.alloc rfl ze235 ?_
             intro b95
             refine L.store (i := 0) sz235 rfl rfl rfl rfl (by simp [Value.oneCell', Value.cells, st, pt]) rfl (Nat.le_of_ble_eq_true rfl) ?_
             refine L.nil (E.thenN (W.seq (W.region (L.y rfl (Y.fieldP fd235_1 rfl) ?_))))
             refine L.y rfl (Y.loadP (i := 0) ag3 rfl rfl rfl) ?_
             refine L.y rfl (Y.move rfl) ?_
             refine L.ite h rfl (Y.leq rfl rfl) (fun c96 h => ?_) (fun c96 h => ?_)
             ·
              refine L.nil (E.thenN (W.condT rfl ?_))
              refine W.region (L.y rfl (Y.fieldP fd235_0 rfl) ?_)
              refine L.y rfl (Y.loadP (i := 0) ag3 rfl rfl rfl) ?_
              refine L.y rfl (Y.assign rfl) ?_
              refine L.nil (E.blockN (E.thenN (W.region (L.m (V := fun x97 => .int .i64 x97) h rfl (Y.addM rfl rfl) (fun x97 ex97 h => ?_)))))
              refine L.y rfl (Y.move rfl) ?_
              exact L.nil (E.againJ ⟨x94.by_, x97, rfl, rfl, by rw [hg5]; exact h⟩ (Nat.lt_succ_self _) ⟨rfl, rfl, rfl, rfl, rfl, trivial⟩ (fun _ hw => hw.sel [1, 2, 3, 4, 5, 6, 7] (by decide) rfl))
             ·
              refine L.nil (E.thenN (W.condF rfl ?_))
              refine W.skip (E.blockN (E.thenN (W.region (L.m (V := fun x98 => .int .i64 x98) h rfl (Y.addM rfl rfl) (fun x98 ex98 h => ?_)))))
              refine L.y rfl (Y.move rfl) ?_
              exact L.nil (E.againJ ⟨gx43, x98, rfl, rfl, by rw [hg5]; exact h⟩ (Nat.lt_succ_self _) ⟨rfl, rfl, rfl, rfl, rfl, trivial⟩ (fun _ hw => hw.sel [1, 2, 3, 4, 5, 6, 7] (by decide) rfl))
            ·
             refine L.nil (E.thenN (W.seq (W.condF rfl ?_)))
             exact W.exit (E.thenX (E.KLX (E.blockX (E.joinJ ⟨gx43, rfl, rfl, h⟩ ⟨rfl, trivial⟩ (fun _ hw => hw)))))
           ·
            rintro _ _ ⟨gx42, rfl, rfl, h⟩
            rw [m95_snap_Play_K13] at h
            refine W.seq (W.region (L.y rfl (Y.move rfl) ?_))
            refine L.y rfl (Y.assign rfl) ?_
            refine L.nil (E.thenN (W.ret (E.ret1 rfl rfl (fun w1 hw => ?_))))
            exact ⟨_, _, rfl, ⟨gx42, rfl, rfl, h⟩, hw⟩
          ·
           rintro _ _ ⟨gx41, rfl, rfl, h⟩
           rw [m95_snap_Play_K12] at h
           refine L.nil (E.toV2 (stC [[9]] [Cls w [] [.obj b12 [.bool true, .int .i64 (-1)] 152, .obj b10 [.bool false, .int .i64 0] 152, .obj b9 [.int .i64 x3.Tx, .int .i64 x3.Kind, .int .i64 x3.Item] 164, .obj b1 (List.flatten [(zr Ttx.rowv gq19 gl18).flatten, [.int .i64 gx8], (zr svRow gq10 gl9).flatten]) 206, .ss (zs Ttx.sds gq19 gl18), .ss (zs (svSd 235 2 Tversion.row) gq10 gl9), .sl gv3 152 2 (gl4.map TDid.row)]] (Cls w [] [.obj b10 [.bool false, .int .i64 0] 152, .obj b9 [.int .i64 x3.Tx, .int .i64 x3.Kind, .int .i64 x3.Item] 164, .obj b1 (List.flatten [(zr Ttx.rowv gq19 gl18).flatten, [.int .i64 gx8], (zr svRow gq10 gl9).flatten]) 206, .ss (zs Ttx.sds gq19 gl18), .ss (zs (svSd 235 2 Tversion.row) gq10 gl9), .sl gv3 152 2 (gl4.map TDid.row)])) 7 (by kernel_rfl) (Sc.stay (fun _ hw => hw) (Sc.stayD (fun _ hw => hw))) (Sc.now (by kernel_rfl) (fun _ hw => hw)) ?_)
           refine V2.y (i := 8) (Nx2.of (Z := Cls w [] [.obj b10 [.bool false, .int .i64 0] 152, .obj b9 [.int .i64 x3.Tx, .int .i64 x3.Kind, .int .i64 x3.Item] 164, .obj b1 (List.flatten [(zr Ttx.rowv gq19 gl18).flatten, [.int .i64 gx8], (zr svRow gq10 gl9).flatten]) 206, .ss (zs Ttx.sds gq19 gl18), .ss (zs (svSd 235 2 Tversion.row) gq10 gl9), .sl gv3 152 2 (gl4.map TDid.row)]) [] (by kernel_rfl) rfl (Zc.on (fun _ hw => hw.sel [1, 2, 3, 4, 5, 6] (by decide) rfl) (Zc.fin (fun _ hw => hw)))) rfl rfl rfl (Y.fieldP fd152_1 rfl) ?_
           refine V2.eff (i := 9) (by kernel_rfl) rfl ?_
           refine L.store (i := 0) sz3 rfl rfl rfl rfl (by simp [Value.oneCell', Value.cells, st, pt]) rfl (Nat.le_of_ble_eq_true rfl) ?_
           refine L.nil (E.toV2 (stC [] [] (Cls w [] [.obj b10 [.bool false, .int .i64 0] 152, .obj b9 [.int .i64 x3.Tx, .int .i64 x3.Kind, .int .i64 x3.Item] 164, .obj b1 (List.flatten [(zr Ttx.rowv gq19 gl18).flatten, [.int .i64 gx8], (zr svRow gq10 gl9).flatten]) 206, .ss (zs Ttx.sds gq19 gl18), .ss (zs (svSd 235 2 Tversion.row) gq10 gl9), .sl gv3 152 2 (gl4.map TDid.row)])) 9 (by kernel_rfl) (Sc.past rfl (Sc.stayD (fun _ hw => hw))) (Sc.atD (fun _ hw => hw.sel [1, 2, 3, 4, 5, 6] (by decide) rfl)) ?_)
           refine V2.done (by kernel_rfl) ?_
           refine E.thenN (W.seq (W.quietC mixed (by kernel_rfl) (fun _ hw => hw.drew) (fun hC => ?_)))
           refine U.y rfl (Y.move rfl) ?_
           refine U.y rfl (Y.nilCheck rfl) ?_
           refine U.y rfl (Y.fieldP fd201_2 rfl) ?_
           obtain ⟨x88, ex88, h⟩ := bind1S h
           refine U.y rfl (Y.loadZg (si := 0) (ps := 0) (q := 3) (row := Ttx.rowv) (vs := gq19) (j := 2) (pv := gv (gq19 x3.Tx.toNat) 0) ag24 rfl rfl rfl rfl sl0 (fun _ _ => rfl) ex88 rfl) ?_
           refine U.y rfl (Y.fieldP fd164_2 rfl) ?_
           refine U.y rfl (Y.loadP (i := 2) ag3 rfl rfl rfl) ?_
           obtain ⟨b89, e90, h⟩ := bind1S h
           refine U.y rfl (Y.does en134 rfl (fun w' hw => (w134_slices_Contains_int x88.writes_ x3.Item (gv (gq19 x3.Tx.toNat) 0) w' _ e90 (As.atZ (sds := Ttx.sds) (vs := gq19) (j := 0) (c := 1) (hw.get (i := 4) rfl) (fun _ _ => rfl) ex88 rfl)).mono (fun _ _ h => h.1))) ?_
           rcases b89 with _ | _
           ·
            replace h := iteF h
            refine U.nil (E.thenN (W.condF rfl ?_))
            exact W.skip (E.blockN (E.joinJ ⟨true, gx41, gl18, gq19, gx8, gl9, gq10, rfl, rfl, h⟩ ⟨rfl, rfl, trivial⟩ (fun _ hw => hw.sel [0, 1, 3, 4, 5, 6] (by decide) rfl)))
           ·
            replace h := iteT h
            refine U.nil (E.thenN (W.condT rfl ?_))
            refine W.region (L.y rfl (Y.fieldP fd164_0 rfl) ?_)
            refine L.y rfl (Y.loadP (i := 2) ag3 rfl rfl rfl) ?_
            refine L.y rfl (Y.fieldP fd152_1 rfl) ?_
            refine L.store (i := 0) sz3 rfl rfl rfl rfl (by simp [Value.oneCell', Value.cells, st, pt]) rfl (Nat.le_of_ble_eq_true rfl) ?_
            exact L.nil (E.blockN (E.joinJ ⟨true, x3.Tx, gl18, gq19, gx8, gl9, gq10, rfl, rfl, h⟩ ⟨rfl, rfl, trivial⟩ (fun _ hw => hw.sel [0, 1, 3, 4, 5, 6] (by decide) rfl)))
       ·
        rintro _ _ ⟨gb20, gx21, gl22, gq23, gx24, gl25, gq26, rfl, rfl, h⟩
        rw [m95_snap_Play_K5] at h
        refine W.seq (W.region (L.y rfl (Y.loadPW (i := 0) ag152 sz152 rfl rfl rfl) ?_))
        refine L.store (i := 1) sz152 rfl rfl rfl rfl (by simp [Value.oneCell', Value.cells, st, pt]) rfl (Nat.le_of_ble_eq_true rfl) ?_
        refine L.nil (E.thenN (W.ret (E.retR1 rfl (Rv.cellW (i := 1) ag152 sz152 rfl rfl rfl) (fun w1 hw => ?_))))
        exact ⟨_, _, rfl, ⟨gb20, gx21, gl22, gq23, gx24, gl25, gq26, rfl, rfl, h⟩, hw.sel [2, 3, 4, 5] (by decide) rfl⟩
     ·
      rintro _ _ ⟨gb11, gx12, gl13, gq14, gx15, gl16, gq17, rfl, rfl, h⟩
      rw [m95_snap_Play_K3] at h
      refine L.litAgg rfl Try.underlying147 el152 rfl rfl rfl ?_
      intro b5
      refine L.appM (i := 4) (g := TDid.row) (l := gl4) (more := [(⟨gb11, gx12⟩ : TDid)]) h rfl Try.underlying147 el152 rfl rfl rfl (fun w hw => As.at_ (hw.get (i := 0) rfl)) (plain_TDid _) rfl ?_
      intro v6 l7 el7 h
      refine L.y rfl (Y.assign rfl) ?_
      refine L.nil (E.blockN (E.thenN (W.region (L.m (V := fun x8 => .int .i64 x8) h rfl (Y.addM rfl rfl) (fun x8 ex8 h => ?_)))))
      refine L.y rfl (Y.move rfl) ?_
      exact L.nil (E.againJ ⟨v6, l7, x8, gl13, gq14, gx15, gl16, gq17, rfl, rfl, by rw [hg1]; exact h⟩ (Nat.lt_succ_self _) ⟨rfl, rfl, rfl, rfl, rfl, trivial⟩ (fun _ hw => hw.sel [2, 3, 4, 0] (by decide) rfl))
    ·
     refine L.nil (E.thenN (W.seq (W.condF rfl ?_)))
     exact W.exit (E.thenX (E.KLX (E.blockX (E.joinJ ⟨gv3, gl4, rfl, rfl, h⟩ ⟨rfl, trivial⟩ (fun _ hw => hw.sel [3] (by decide) rfl)))))
   ·
    rintro _ _ ⟨gv1, gl2, rfl, rfl, h⟩
    rw [m95_snap_Play_K2] at h
    refine W.seq (W.region (L.y rfl (Y.move rfl) ?_))
    refine L.y rfl (Y.assign rfl) ?_
    refine L.y rfl (Y.assign rfl) ?_
    refine L.nil (E.thenN (W.ret (E.ret2 rfl rfl rfl (fun w1 hw => ?_))))
    obtain rfl := Option.some.inj h
    exact ⟨_, _, rfl, ⟨_, rfl, rfl⟩, hw⟩
end Go.Proofs.Ytfmgjigdebofaaa
