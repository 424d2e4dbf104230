/-
  Walks, printed by a program of mine.
  Conditions: none.
-/
import Derived.Test.YtfmgjigdebofaaaCdM
import Derived.Test.YtfmgjigdebofaaaChecked
import Derived.KernelRfl
namespace Go.Proofs.Ytfmgjigdebofaaa
open Go.S
set_option linter.unusedVariables false
set_option linter.unusedSimpArgs false
theorem mixed : Try.prog.follows .mixedOrders = true := by kernel_rfl
theorem el5 : elemB Try.prog 5 1 1 = true := by kernel_rfl
theorem en27 : entB Try.prog 27 = true := by kernel_rfl
theorem en28 : entB Try.prog 28 = true := by kernel_rfl
theorem en29 : entB Try.prog 29 = true := by kernel_rfl
theorem en30 : entB Try.prog 30 = true := by kernel_rfl
theorem en31 : entB Try.prog 31 = true := by kernel_rfl
theorem en32 : entB Try.prog 32 = true := by kernel_rfl
theorem en33 : entB Try.prog 33 = true := by kernel_rfl
theorem en34 : entB Try.prog 34 = true := by kernel_rfl
theorem en35 : entB Try.prog 35 = true := by kernel_rfl
theorem en36 : entB Try.prog 36 = true := by kernel_rfl
theorem en37 : entB Try.prog 37 = true := by kernel_rfl
theorem en38 : entB Try.prog 38 = true := by kernel_rfl
set_option maxRecDepth 100000 in
theorem w27_code_GetNat (a0 : (List UInt8)) (w : World) (r : (Int × Int × Int)) (h : m27_code_GetNat a0 = some r) : Does Try.prog 27 [st a0] w fun u m => u = .tuple #[.int .u64 r.1, .int .i64 r.2.1, .int .i64 r.2.2] ∧ m = [] := by
  rw [m27_code_GetNat] at h
  refine body (n := 42) Try.func27 rfl rfl rfl (Cls.refl w) ?_
  refine W.seq ?_
  refine W.region ?_
  refine L.y rfl (Y.assign rfl) ?_
  refine L.y rfl (Y.assign rfl) ?_
  refine L.y rfl (Y.assign rfl) ?_
  refine L.nil ?_
  refine E.thenN ?_
  refine W.seq ?_
  refine W.region ?_
  refine L.y rfl (Y.assign rfl) ?_
  refine L.nil ?_
  refine E.thenN ?_
  refine W.seqJ (fun gs D => gs = [] ∧ D = Cls w [] [] ∧ m27_code_GetNat_K1 = some r) ?_ ?_
  ·
    refine W.seq ?_
    refine W.region ?_
    refine L.y rfl (Y.move rfl) ?_
    refine L.y rfl (Y.lenS Try.underlying9 rfl) ?_
    refine L.y rfl (Y.move rfl) ?_
    refine L.nil ?_
    refine E.thenN ?_
    refine W.block ?_
    refine W.loopJ (fun m gs D => ∃ (x1551 : Int) (x1552 : Int), gs = [(0, st a0), (5, .int .u64 x1551), (9, .int .i64 (a0.length : Int)), (10, .int .i64 x1552)] ∧ D = Cls w [] [] ∧ m27_code_GetNat_L1 a0 m x1551 x1552 = some r) ⟨0, 0, rfl, rfl, h⟩ ⟨rfl, rfl, rfl, rfl, trivial⟩ (fun _ hw => hw) ?_
    rintro m _ _ ⟨x1551, x1552, rfl, rfl, h⟩
    rcases m with _ | m
    · rw [m27_code_GetNat_L1] at h; cases h
    rw [m27_code_GetNat_L1] at h
    generalize hg1 : m27_code_GetNat_L1 a0 m = go1 at h
    rw [m27_code_GetNat_L1B] at h
    refine W.seq ?_
    refine W.region ?_
    refine L.ite h rfl (Y.lss rfl rfl) (fun c1940 h => ?_) (fun c1940 h => ?_)
    ·
      refine L.nil ?_
      refine E.thenN ?_
      refine W.seq ?_
      refine W.condT rfl ?_
      refine W.skip ?_
      refine E.thenN ?_
      refine W.seq ?_
      refine W.block ?_
      refine W.seq ?_
      refine W.region ?_
      refine L.y rfl (Y.move rfl) ?_
      refine L.y rfl (Y.assign rfl) ?_
      refine L.nil ?_
      refine E.thenN ?_
      refine W.seq ?_
      refine W.region ?_
      refine L.y rfl (Y.move rfl) ?_
      refine L.y rfl (Y.move rfl) ?_
      refine L.m (V := fun x2135 => .int .u8 x2135) h rfl (Y.indexSM Try.underlying9 rfl rfl) (fun x2135 ex2135 h => ?_)
      refine L.y rfl (Y.assign rfl) ?_
      refine L.nil ?_
      refine E.thenN ?_
      refine W.seqJ (fun gs D => gs = [(0, st a0), (5, .int .u64 x1551), (6, .int .i64 x1552), (7, .int .u8 x2135), (9, .int .i64 (a0.length : Int)), (10, .int .i64 x1552)] ∧ D = Cls w [] [] ∧ m27_code_GetNat_K2 x1552 x2135 x1551 go1 = some r) ?_ ?_
      ·
        refine W.seq ?_
        refine W.region ?_
        refine L.y rfl (Y.move rfl) ?_
        refine L.ite h rfl (Y.eql rfl rfl) (fun c2325 h => ?_) (fun c2325 h => ?_)
        ·
          refine L.y rfl (Y.move rfl) ?_
          refine L.take rfl ?_
          refine L.y rfl (Y.move rfl) ?_
          refine L.take rfl ?_
          refine L.ite h rfl (Y.gtr rfl rfl) (fun c2326 h => ?_) (fun c2326 h => ?_)
          ·
            refine L.y rfl (Y.pickT rfl rfl) ?_
            refine L.nil ?_
            refine E.thenN ?_
            refine W.condT rfl ?_
            refine W.seq ?_
            refine W.region ?_
            refine L.y rfl (Y.assign rfl) ?_
            refine L.y rfl (Y.assign rfl) ?_
            refine L.y rfl (Y.assign rfl) ?_
            refine L.nil ?_
            refine E.thenN ?_
            refine W.ret ?_
            refine E.KSR ?_
            refine E.blockR ?_
            refine E.thenR ?_
            refine E.KLR ?_
            refine E.blockR ?_
            refine E.KSR ?_
            refine E.ret3 rfl rfl rfl rfl (fun w1 hw => ?_)
            obtain rfl := Option.some.inj h
            exact ⟨_, _, rfl, ⟨rfl, rfl⟩, hw⟩
          ·
            refine L.y rfl (Y.pickT rfl rfl) ?_
            refine L.nil ?_
            refine E.thenN ?_
            refine W.condF rfl ?_
            refine W.skip ?_
            exact E.joinJ ⟨rfl, rfl, h⟩ ⟨rfl, rfl, rfl, rfl, rfl, rfl, trivial⟩ (fun _ hw => hw)
        ·
          refine L.y rfl (Y.move rfl) ?_
          refine L.pass rfl rfl (by nofun) ?_
          refine L.pass rfl rfl (by nofun) ?_
          refine L.y rfl (Y.pickF rfl rfl) ?_
          refine L.nil ?_
          refine E.thenN ?_
          refine W.condF rfl ?_
          refine W.skip ?_
          exact E.joinJ ⟨rfl, rfl, h⟩ ⟨rfl, rfl, rfl, rfl, rfl, rfl, trivial⟩ (fun _ hw => hw)
      ·
        rintro _ _ ⟨rfl, rfl, h⟩
        rw [m27_code_GetNat_K2] at h
        refine W.seq ?_
        refine W.region ?_
        refine L.y rfl (Y.move rfl) ?_
        refine L.y rfl (Y.move rfl) ?_
        refine L.y rfl (Y.and rfl rfl) ?_
        refine L.y rfl (Y.conv Try.underlying5 Try.underlying41 rfl) ?_
        refine L.y rfl (Y.move rfl) ?_
        refine L.m (V := fun x2282 => .int .i64 x2282) h rfl (Y.mulM rfl rfl) (fun x2282 ex2282 h => ?_)
        refine L.m (V := fun x2283 => .int .u64 x2283) h rfl (Y.shlM rfl rfl) (fun x2283 ex2283 h => ?_)
        refine L.y rfl (Y.or rfl rfl) ?_
        refine L.y rfl (Y.assign rfl) ?_
        refine L.nil ?_
        refine E.thenN ?_
        refine W.seq ?_
        refine W.region ?_
        refine L.y rfl (Y.move rfl) ?_
        refine L.ite h rfl (Y.lss rfl rfl) (fun c2303 h => ?_) (fun c2303 h => ?_)
        ·
          refine L.nil ?_
          refine E.thenN ?_
          refine W.condT rfl ?_
          refine W.seqJ (fun gs D => gs = [(5, .int .u64 (Go.bits .or .u64 x1551 x2283)), (6, .int .i64 x1552)] ∧ D = Cls w [] [] ∧ m27_code_GetNat_K3 x1552 x1551 x2283 = some r) ?_ ?_
          ·
            refine W.seq ?_
            refine W.region ?_
            refine L.y rfl (Y.move rfl) ?_
            refine L.ite h rfl (Y.eql rfl rfl) (fun c2320 h => ?_) (fun c2320 h => ?_)
            ·
              refine L.y rfl (Y.move rfl) ?_
              refine L.take rfl ?_
              refine L.y rfl (Y.move rfl) ?_
              refine L.take rfl ?_
              refine L.ite h rfl (Y.gtr rfl rfl) (fun c2321 h => ?_) (fun c2321 h => ?_)
              ·
                refine L.y rfl (Y.pickT rfl rfl) ?_
                refine L.nil ?_
                refine E.thenN ?_
                refine W.condT rfl ?_
                refine W.seq ?_
                refine W.region ?_
                refine L.y rfl (Y.assign rfl) ?_
                refine L.y rfl (Y.assign rfl) ?_
                refine L.y rfl (Y.assign rfl) ?_
                refine L.nil ?_
                refine E.thenN ?_
                refine W.ret ?_
                refine E.KSR ?_
                refine E.blockR ?_
                refine E.thenR ?_
                refine E.KLR ?_
                refine E.blockR ?_
                refine E.KSR ?_
                refine E.ret3 rfl rfl rfl rfl (fun w1 hw => ?_)
                obtain rfl := Option.some.inj h
                exact ⟨_, _, rfl, ⟨rfl, rfl⟩, hw⟩
              ·
                refine L.y rfl (Y.pickT rfl rfl) ?_
                refine L.nil ?_
                refine E.thenN ?_
                refine W.condF rfl ?_
                refine W.skip ?_
                exact E.joinJ ⟨rfl, rfl, h⟩ ⟨rfl, rfl, trivial⟩ (fun _ hw => hw)
            ·
              refine L.y rfl (Y.move rfl) ?_
              refine L.pass rfl rfl (by nofun) ?_
              refine L.pass rfl rfl (by nofun) ?_
              refine L.y rfl (Y.pickF rfl rfl) ?_
              refine L.nil ?_
              refine E.thenN ?_
              refine W.condF rfl ?_
              refine W.skip ?_
              exact E.joinJ ⟨rfl, rfl, h⟩ ⟨rfl, rfl, trivial⟩ (fun _ hw => hw)
          ·
            rintro _ _ ⟨rfl, rfl, h⟩
            rw [m27_code_GetNat_K3] at h
            refine W.seq ?_
            refine W.region ?_
            refine L.y rfl (Y.move rfl) ?_
            refine L.y rfl (Y.move rfl) ?_
            refine L.m (V := fun x2317 => .int .i64 x2317) h rfl (Y.addM rfl rfl) (fun x2317 ex2317 h => ?_)
            refine L.y rfl (Y.assign rfl) ?_
            refine L.y rfl (Y.assign rfl) ?_
            refine L.y rfl (Y.assign rfl) ?_
            refine L.nil ?_
            refine E.thenN ?_
            refine W.ret ?_
            refine E.blockR ?_
            refine E.thenR ?_
            refine E.KLR ?_
            refine E.blockR ?_
            refine E.KSR ?_
            refine E.ret3 rfl rfl rfl rfl (fun w1 hw => ?_)
            obtain rfl := Option.some.inj h
            exact ⟨_, _, rfl, ⟨rfl, rfl⟩, hw⟩
        ·
          refine L.nil ?_
          refine E.thenN ?_
          refine W.condF rfl ?_
          refine W.skip ?_
          refine E.blockN ?_
          refine E.thenN ?_
          refine W.region ?_
          refine L.m (V := fun x2322 => .int .i64 x2322) h rfl (Y.addM rfl rfl) (fun x2322 ex2322 h => ?_)
          refine L.y rfl (Y.move rfl) ?_
          refine L.nil ?_
          exact E.againJ ⟨Go.bits .or .u64 x1551 x2283, x2322, rfl, rfl, by rw [hg1]; exact h⟩ (Nat.lt_succ_self _) ⟨rfl, rfl, rfl, rfl, trivial⟩ (fun _ hw => hw)
    ·
      refine L.nil ?_
      refine E.thenN ?_
      refine W.seq ?_
      refine W.condF rfl ?_
      refine W.exit ?_
      refine E.thenX ?_
      refine E.KLX ?_
      refine E.blockX ?_
      exact E.joinJ ⟨rfl, rfl, h⟩ trivial (fun _ hw => hw)
  ·
    rintro _ _ ⟨rfl, rfl, h⟩
    rw [m27_code_GetNat_K1] at h
    refine W.seq ?_
    refine W.region ?_
    refine L.y rfl (Y.assign rfl) ?_
    refine L.y rfl (Y.assign rfl) ?_
    refine L.y rfl (Y.assign rfl) ?_
    refine L.nil ?_
    refine E.thenN ?_
    refine W.ret ?_
    refine E.ret3 rfl rfl rfl rfl (fun w1 hw => ?_)
    obtain rfl := Option.some.inj h
    exact ⟨_, _, rfl, ⟨rfl, rfl⟩, hw⟩
set_option maxRecDepth 100000 in
theorem w29_code_GetInt (a0 : (List UInt8)) (w : World) (r : (Int × Int × Int)) (h : m29_code_GetInt a0 = some r) : Does Try.prog 29 [st a0] w fun u m => u = .tuple #[.int .i64 r.1, .int .i64 r.2.1, .int .i64 r.2.2] ∧ m = [] := by
  rw [m29_code_GetInt] at h
  refine body (n := 28) Try.func29 rfl rfl rfl (Cls.refl w) ?_
  refine W.seq ?_
  refine W.region ?_
  refine L.y rfl (Y.assign rfl) ?_
  refine L.y rfl (Y.assign rfl) ?_
  refine L.y rfl (Y.assign rfl) ?_
  refine L.nil ?_
  refine E.thenN ?_
  refine W.seq ?_
  refine W.region ?_
  refine L.y rfl (Y.move rfl) ?_
  obtain ⟨x5, x6, x7, e8, h⟩ := bind3S h
  refine L.y rfl (Y.does en27 rfl (fun w' hw => (w27_code_GetNat a0 w' _ e8).mono (fun _ _ h => h.1))) ?_
  refine L.y rfl (Y.move rfl) ?_
  refine L.y rfl (Y.extract rfl rfl) ?_
  refine L.y rfl (Y.extract rfl rfl) ?_
  refine L.y rfl (Y.extract rfl rfl) ?_
  refine L.y rfl (Y.assign rfl) ?_
  refine L.y rfl (Y.assign rfl) ?_
  refine L.y rfl (Y.assign rfl) ?_
  refine L.nil ?_
  refine E.thenN ?_
  refine W.seqJ (fun gs D => gs = [(5, .int .u64 x5), (6, .int .i64 x6)] ∧ D = Cls w [] [] ∧ m29_code_GetInt_K1 x5 x6 = some r) ?_ ?_
  ·
    refine W.seq ?_
    refine W.region ?_
    refine L.y rfl (Y.move rfl) ?_
    refine L.ite h rfl (Y.neq rfl rfl) (fun c33 h => ?_) (fun c33 h => ?_)
    ·
      refine L.nil ?_
      refine E.thenN ?_
      refine W.condT rfl ?_
      refine W.seq ?_
      refine W.region ?_
      refine L.y rfl (Y.move rfl) ?_
      refine L.y rfl (Y.assign rfl) ?_
      refine L.y rfl (Y.assign rfl) ?_
      refine L.y rfl (Y.assign rfl) ?_
      refine L.nil ?_
      refine E.thenN ?_
      refine W.ret ?_
      refine E.KSR ?_
      refine E.ret3 rfl rfl rfl rfl (fun w1 hw => ?_)
      obtain rfl := Option.some.inj h
      exact ⟨_, _, rfl, ⟨rfl, rfl⟩, hw⟩
    ·
      refine L.nil ?_
      refine E.thenN ?_
      refine W.condF rfl ?_
      refine W.skip ?_
      exact E.joinJ ⟨rfl, rfl, h⟩ ⟨rfl, rfl, trivial⟩ (fun _ hw => hw)
  ·
    rintro _ _ ⟨rfl, rfl, h⟩
    rw [m29_code_GetInt_K1] at h
    refine W.seq ?_
    refine W.region ?_
    refine L.y rfl (Y.move rfl) ?_
    refine L.m (V := fun x26 => .int .u64 x26) h rfl (Y.shrM rfl rfl) (fun x26 ex26 h => ?_)
    refine L.y rfl (Y.assign rfl) ?_
    refine L.nil ?_
    refine E.thenN ?_
    refine W.seqJ (fun gs D => ∃ (x29 : Int), gs = [(6, .int .i64 x6), (8, .int .u64 x29)] ∧ D = Cls w [] [] ∧ m29_code_GetInt_K2 x6 x29 = some r) ?_ ?_
    ·
      refine W.seq ?_
      refine W.region ?_
      refine L.y rfl (Y.move rfl) ?_
      refine L.y rfl (Y.and rfl rfl) ?_
      refine L.ite h rfl (Y.eql rfl rfl) (fun c31 h => ?_) (fun c31 h => ?_)
      ·
        refine L.nil ?_
        refine E.thenN ?_
        refine W.condT rfl ?_
        refine W.region ?_
        refine L.y rfl (Y.move rfl) ?_
        refine L.y rfl (Y.comM rfl) ?_
        refine L.y rfl (Y.assign rfl) ?_
        refine L.nil ?_
        exact E.joinJ ⟨comW .u64 x26, rfl, rfl, h⟩ ⟨rfl, rfl, trivial⟩ (fun _ hw => hw)
      ·
        refine L.nil ?_
        refine E.thenN ?_
        refine W.condF rfl ?_
        refine W.skip ?_
        exact E.joinJ ⟨x26, rfl, rfl, h⟩ ⟨rfl, rfl, trivial⟩ (fun _ hw => hw)
    ·
      rintro _ _ ⟨x29, rfl, rfl, h⟩
      rw [m29_code_GetInt_K2] at h
      refine W.seq ?_
      refine W.region ?_
      refine L.y rfl (Y.move rfl) ?_
      refine L.y rfl (Y.conv Try.underlying41 Try.underlying3 rfl) ?_
      refine L.y rfl (Y.move rfl) ?_
      refine L.y rfl (Y.assign rfl) ?_
      refine L.y rfl (Y.assign rfl) ?_
      refine L.y rfl (Y.assign rfl) ?_
      refine L.nil ?_
      refine E.thenN ?_
      refine W.ret ?_
      refine E.ret3 rfl rfl rfl rfl (fun w1 hw => ?_)
      obtain rfl := Option.some.inj h
      exact ⟨_, _, rfl, ⟨rfl, rfl⟩, hw⟩
set_option maxRecDepth 100000 in
theorem w31_code_GetText (a0 : (List UInt8)) (w : World) (r : ((List UInt8) × Int × Int)) (h : m31_code_GetText a0 = some r) : Does Try.prog 31 [st a0] w fun u m => u = .tuple #[st r.1, .int .i64 r.2.1, .int .i64 r.2.2] ∧ m = [] := by
  rw [m31_code_GetText] at h
  refine body (n := 40) Try.func31 rfl rfl rfl (Cls.refl w) ?_
  refine W.seq ?_
  refine W.region ?_
  refine L.y rfl (Y.assign rfl) ?_
  refine L.y rfl (Y.assign rfl) ?_
  refine L.y rfl (Y.assign rfl) ?_
  refine L.nil ?_
  refine E.thenN ?_
  refine W.seq ?_
  refine W.region ?_
  refine L.y rfl (Y.move rfl) ?_
  obtain ⟨x5, x6, x7, e8, h⟩ := bind3S h
  refine L.y rfl (Y.does en27 rfl (fun w' hw => (w27_code_GetNat a0 w' _ e8).mono (fun _ _ h => h.1))) ?_
  refine L.y rfl (Y.move rfl) ?_
  refine L.y rfl (Y.extract rfl rfl) ?_
  refine L.y rfl (Y.extract rfl rfl) ?_
  refine L.y rfl (Y.extract rfl rfl) ?_
  refine L.y rfl (Y.assign rfl) ?_
  refine L.y rfl (Y.assign rfl) ?_
  refine L.y rfl (Y.assign rfl) ?_
  refine L.nil ?_
  refine E.thenN ?_
  refine W.seqJ (fun gs D => gs = [(0, st a0), (5, .int .u64 x5), (6, .int .i64 x6)] ∧ D = Cls w [] [] ∧ m31_code_GetText_K1 x6 x5 a0 = some r) ?_ ?_
  ·
    refine W.block ?_
    refine W.seq ?_
    refine W.region ?_
    refine L.y rfl (Y.move rfl) ?_
    refine L.ite h rfl (Y.neq rfl rfl) (fun c96 h => ?_) (fun c96 h => ?_)
    ·
      refine L.y rfl (Y.assign rfl) ?_
      refine L.nil ?_
      refine E.thenN ?_
      refine W.condT rfl ?_
      refine W.seq ?_
      refine W.region ?_
      refine L.y rfl (Y.move rfl) ?_
      refine L.y rfl (Y.assign rfl) ?_
      refine L.y rfl (Y.assign rfl) ?_
      refine L.y rfl (Y.assign rfl) ?_
      refine L.nil ?_
      refine E.thenN ?_
      refine W.ret ?_
      refine E.blockR ?_
      refine E.KSR ?_
      refine E.ret3 rfl rfl rfl rfl (fun w1 hw => ?_)
      obtain rfl := Option.some.inj h
      exact ⟨_, _, rfl, ⟨rfl, rfl⟩, hw⟩
    ·
      refine L.y rfl (Y.assign rfl) ?_
      refine L.nil ?_
      refine E.thenN ?_
      refine W.condF rfl ?_
      refine W.seq ?_
      refine W.region ?_
      refine L.y rfl (Y.move rfl) ?_
      refine L.ite h rfl (Y.gtr rfl rfl) (fun c102 h => ?_) (fun c102 h => ?_)
      ·
        refine L.y rfl (Y.assign rfl) ?_
        refine L.nil ?_
        refine E.thenN ?_
        refine W.condT rfl ?_
        refine W.seq ?_
        refine W.region ?_
        refine L.y rfl (Y.assign rfl) ?_
        refine L.y rfl (Y.assign rfl) ?_
        refine L.y rfl (Y.assign rfl) ?_
        refine L.nil ?_
        refine E.thenN ?_
        refine W.ret ?_
        refine E.blockR ?_
        refine E.KSR ?_
        refine E.ret3 rfl rfl rfl rfl (fun w1 hw => ?_)
        obtain rfl := Option.some.inj h
        exact ⟨_, _, rfl, ⟨rfl, rfl⟩, hw⟩
      ·
        refine L.y rfl (Y.assign rfl) ?_
        refine L.nil ?_
        refine E.thenN ?_
        refine W.condF rfl ?_
        refine W.seq ?_
        refine W.region ?_
        refine L.y rfl (Y.move rfl) ?_
        refine L.y rfl (Y.lenS Try.underlying9 rfl) ?_
        refine L.y rfl (Y.move rfl) ?_
        refine L.m (V := fun x105 => .int .i64 x105) h rfl (Y.subM rfl rfl) (fun x105 ex105 h => ?_)
        refine L.y rfl (Y.conv Try.underlying3 Try.underlying41 rfl) ?_
        refine L.y rfl (Y.move rfl) ?_
        refine L.ite h rfl (Y.lss rfl rfl) (fun c106 h => ?_) (fun c106 h => ?_)
        ·
          refine L.y rfl (Y.assign rfl) ?_
          refine L.nil ?_
          refine E.thenN ?_
          refine W.condT rfl ?_
          refine W.seq ?_
          refine W.region ?_
          refine L.y rfl (Y.assign rfl) ?_
          refine L.y rfl (Y.assign rfl) ?_
          refine L.y rfl (Y.assign rfl) ?_
          refine L.nil ?_
          refine E.thenN ?_
          refine W.ret ?_
          refine E.blockR ?_
          refine E.KSR ?_
          refine E.ret3 rfl rfl rfl rfl (fun w1 hw => ?_)
          obtain rfl := Option.some.inj h
          exact ⟨_, _, rfl, ⟨rfl, rfl⟩, hw⟩
        ·
          refine L.y rfl (Y.assign rfl) ?_
          refine L.nil ?_
          refine E.thenN ?_
          refine W.condF rfl ?_
          refine W.skip ?_
          refine E.blockN ?_
          exact E.joinJ ⟨rfl, rfl, h⟩ ⟨rfl, rfl, rfl, trivial⟩ (fun _ hw => hw)
  ·
    rintro _ _ ⟨rfl, rfl, h⟩
    rw [m31_code_GetText_K1] at h
    refine W.seq ?_
    refine W.region ?_
    refine L.y rfl (Y.move rfl) ?_
    refine L.y rfl (Y.move rfl) ?_
    refine L.y rfl (Y.move rfl) ?_
    refine L.y rfl (Y.move rfl) ?_
    refine L.y rfl (Y.conv Try.underlying41 Try.underlying3 rfl) ?_
    refine L.m (V := fun x82 => .int .i64 x82) h rfl (Y.addM rfl rfl) (fun x82 ex82 h => ?_)
    refine L.m (V := fun s83 => st s83) h rfl (Y.sliceSM Try.underlying9 rfl rfl rfl) (fun s83 es83 h => ?_)
    refine L.y rfl (Y.move rfl) ?_
    refine L.y rfl (Y.move rfl) ?_
    refine L.y rfl (Y.conv Try.underlying41 Try.underlying3 rfl) ?_
    refine L.m (V := fun x84 => .int .i64 x84) h rfl (Y.addM rfl rfl) (fun x84 ex84 h => ?_)
    refine L.y rfl (Y.assign rfl) ?_
    refine L.y rfl (Y.assign rfl) ?_
    refine L.y rfl (Y.assign rfl) ?_
    refine L.nil ?_
    refine E.thenN ?_
    refine W.ret ?_
    refine E.ret3 rfl rfl rfl rfl (fun w1 hw => ?_)
    obtain rfl := Option.some.inj h
    exact ⟨_, _, rfl, ⟨rfl, rfl⟩, hw⟩
set_option maxRecDepth 100000 in
theorem w35_code_PutNat (a0 : Int) (w : World) (r : (List UInt8)) (h : m35_code_PutNat a0 = some r) : Does Try.prog 35 [.int .u64 a0] w fun u m => u = st r ∧ m = [] := by
  rw [m35_code_PutNat] at h
  refine body (n := 20) Try.func35 rfl rfl rfl (Cls.refl w) ?_
  refine W.seq ?_
  refine W.region ?_
  refine L.y rfl (Y.assign rfl) ?_
  refine L.nil ?_
  refine E.thenN ?_
  refine W.seq ?_
  refine W.region ?_
  refine L.y rfl (Y.assign rfl) ?_
  refine L.nil ?_
  refine E.thenN ?_
  refine W.seqJ (fun gs D => ∃ (x100 : Int) (v101 : Value) (l102 : (List Int)), gs = [(0, .int .u64 x100), (3, v101)] ∧ D = Cls w [] [.sl v101 5 1 (l102.map (IK .u8))] ∧ m35_code_PutNat_K1 x100 l102 = some r) ?_ ?_
  ·
    refine W.block ?_
    refine W.nilSl 5 1 ?_
    refine W.loopJ (fun m gs D => ∃ (x141 : Int) (v142 : Value) (l143 : (List Int)), gs = [(0, .int .u64 x141), (3, v142)] ∧ D = Cls w [] [.sl v142 5 1 (l143.map (IK .u8))] ∧ m35_code_PutNat_L1 m x141 l143 = some r) ⟨a0, (.slice none 0 0), [], rfl, rfl, h⟩ ⟨rfl, rfl, trivial⟩ (fun _ hw => hw) ?_
    rintro m _ _ ⟨x141, v142, l143, rfl, rfl, h⟩
    rcases m with _ | m
    · rw [m35_code_PutNat_L1] at h; cases h
    rw [m35_code_PutNat_L1] at h
    generalize hg1 : m35_code_PutNat_L1 m = go1 at h
    rw [m35_code_PutNat_L1B] at h
    refine W.seq ?_
    refine W.seq ?_
    refine W.region ?_
    refine L.y rfl (Y.move rfl) ?_
    refine L.ite h rfl (Y.geq rfl rfl) (fun c200 h => ?_) (fun c200 h => ?_)
    ·
      refine L.nil ?_
      refine E.thenN ?_
      refine W.condT rfl ?_
      refine W.skip ?_
      refine E.thenN ?_
      refine W.block ?_
      refine W.seq ?_
      refine W.region ?_
      refine L.y rfl (Y.move rfl) ?_
      refine L.y rfl (Y.move rfl) ?_
      refine L.y rfl (Y.conv Try.underlying41 Try.underlying5 rfl) ?_
      refine L.y rfl (Y.or rfl rfl) ?_
      refine L.litOne rfl Try.underlying156 el5 rfl rfl ?_
      intro b204
      refine L.appM (i := 1) (g := (IK .u8)) (l := l143) (more := [Go.bits .or .u8 (IntKind.wrap .u8 x141) 128]) h rfl Try.underlying156 el5 rfl rfl rfl (fun w hw => As.at_ (hw.get (i := 0) rfl)) (plain_IK _) rfl ?_
      intro v205 l206 el206 h
      refine L.y rfl (Y.assign rfl) ?_
      refine L.nil ?_
      refine E.thenN ?_
      refine W.region ?_
      refine L.y rfl (Y.move rfl) ?_
      refine L.m (V := fun x207 => .int .u64 x207) h rfl (Y.shrM rfl rfl) (fun x207 ex207 h => ?_)
      refine L.y rfl (Y.assign rfl) ?_
      refine L.nil ?_
      refine E.blockN ?_
      exact E.againJ ⟨x207, v205, l206, rfl, rfl, by rw [hg1]; exact h⟩ (Nat.lt_succ_self _) ⟨rfl, rfl, trivial⟩ (fun _ hw => hw.sel [0] (by decide) rfl)
    ·
      refine L.nil ?_
      refine E.thenN ?_
      refine W.condF rfl ?_
      refine W.exit ?_
      refine E.thenX ?_
      refine E.KLX ?_
      refine E.blockX ?_
      exact E.joinJ ⟨x141, v142, l143, rfl, rfl, h⟩ ⟨rfl, rfl, trivial⟩ (fun _ hw => hw)
  ·
    rintro _ _ ⟨x100, v101, l102, rfl, rfl, h⟩
    rw [m35_code_PutNat_K1] at h
    refine W.seq ?_
    refine W.region ?_
    refine L.y rfl (Y.move rfl) ?_
    refine L.y rfl (Y.move rfl) ?_
    refine L.y rfl (Y.conv Try.underlying41 Try.underlying5 rfl) ?_
    refine L.litOne rfl Try.underlying156 el5 rfl rfl ?_
    intro b106
    refine L.appM (i := 1) (g := (IK .u8)) (l := l102) (more := [IntKind.wrap .u8 x100]) h rfl Try.underlying156 el5 rfl rfl rfl (fun w hw => As.at_ (hw.get (i := 0) rfl)) (plain_IK _) rfl ?_
    intro v107 l108 el108 h
    refine L.y rfl (Y.convBytes (l := l108) Try.underlying156 Try.underlying5 Try.underlying9 rfl (fun w hw => As.at_ (hw.get (i := 0) rfl))) ?_
    refine L.y rfl (Y.assign rfl) ?_
    refine L.nil ?_
    refine E.thenN ?_
    refine W.ret ?_
    refine E.ret1 rfl rfl (fun w1 hw => ?_)
    obtain rfl := Option.some.inj h
    exact ⟨_, _, rfl, ⟨rfl, rfl⟩, hw.sel [] (by decide) rfl⟩
set_option maxRecDepth 100000 in
theorem w37_code_PutInt (a0 : Int) (w : World) (r : (List UInt8)) (h : m37_code_PutInt a0 = some r) : Does Try.prog 37 [.int .i64 a0] w fun u m => u = st r ∧ m = [] := by
  rw [m37_code_PutInt] at h
  refine body (n := 13) Try.func37 rfl rfl rfl (Cls.refl w) ?_
  refine W.seq ?_
  refine W.region ?_
  refine L.y rfl (Y.assign rfl) ?_
  refine L.nil ?_
  refine E.thenN ?_
  refine W.seq ?_
  refine W.region ?_
  refine L.y rfl (Y.move rfl) ?_
  refine L.y rfl (Y.conv Try.underlying3 Try.underlying41 rfl) ?_
  refine L.m (V := fun x2 => .int .u64 x2) h rfl (Y.shlM rfl rfl) (fun x2 ex2 h => ?_)
  refine L.y rfl (Y.assign rfl) ?_
  refine L.nil ?_
  refine E.thenN ?_
  refine W.seq ?_
  refine W.seq ?_
  refine W.region ?_
  refine L.y rfl (Y.move rfl) ?_
  refine L.ite h rfl (Y.lss rfl rfl) (fun c30 h => ?_) (fun c30 h => ?_)
  ·
    refine L.nil ?_
    refine E.thenN ?_
    refine W.condT rfl ?_
    refine W.region ?_
    refine L.y rfl (Y.move rfl) ?_
    refine L.y rfl (Y.comM rfl) ?_
    refine L.y rfl (Y.assign rfl) ?_
    refine L.nil ?_
    refine E.thenN ?_
    refine W.seq ?_
    refine W.region ?_
    refine L.y rfl (Y.move rfl) ?_
    obtain ⟨s33, e34, h⟩ := bind1S h
    refine L.y rfl (Y.does en35 rfl (fun w' hw => (w35_code_PutNat (comW .u64 x2) w' _ e34).mono (fun _ _ h => h.1))) ?_
    refine L.y rfl (Y.assign rfl) ?_
    refine L.nil ?_
    refine E.thenN ?_
    refine W.ret ?_
    refine E.ret1 rfl rfl (fun w1 hw => ?_)
    obtain rfl := Option.some.inj h
    exact ⟨_, _, rfl, ⟨rfl, rfl⟩, hw⟩
  ·
    refine L.nil ?_
    refine E.thenN ?_
    refine W.condF rfl ?_
    refine W.skip ?_
    refine E.thenN ?_
    refine W.seq ?_
    refine W.region ?_
    refine L.y rfl (Y.move rfl) ?_
    obtain ⟨s37, e38, h⟩ := bind1S h
    refine L.y rfl (Y.does en35 rfl (fun w' hw => (w35_code_PutNat x2 w' _ e38).mono (fun _ _ h => h.1))) ?_
    refine L.y rfl (Y.assign rfl) ?_
    refine L.nil ?_
    refine E.thenN ?_
    refine W.ret ?_
    refine E.ret1 rfl rfl (fun w1 hw => ?_)
    obtain rfl := Option.some.inj h
    exact ⟨_, _, rfl, ⟨rfl, rfl⟩, hw⟩
set_option maxRecDepth 100000 in
theorem w33_code_PutText (a0 : (List UInt8)) (w : World) (r : ((List UInt8) × Int)) (h : m33_code_PutText a0 = some r) : Does Try.prog 33 [st a0] w fun u m => u = .tuple #[st r.1, .int .i64 r.2] ∧ m = [] := by
  rw [m33_code_PutText] at h
  refine body (n := 13) Try.func33 rfl rfl rfl (Cls.refl w) ?_
  refine W.seq ?_
  refine W.region ?_
  refine L.y rfl (Y.assign rfl) ?_
  refine L.y rfl (Y.assign rfl) ?_
  refine L.nil ?_
  refine E.thenN ?_
  refine W.seq ?_
  refine W.seq ?_
  refine W.region ?_
  refine L.y rfl (Y.move rfl) ?_
  refine L.y rfl (Y.lenS Try.underlying9 rfl) ?_
  refine L.ite h rfl (Y.gtr rfl rfl) (fun c22 h => ?_) (fun c22 h => ?_)
  ·
    refine L.nil ?_
    refine E.thenN ?_
    refine W.condT rfl ?_
    refine W.seq ?_
    refine W.region ?_
    refine L.y rfl (Y.assign rfl) ?_
    refine L.y rfl (Y.assign rfl) ?_
    refine L.nil ?_
    refine E.thenN ?_
    refine W.ret ?_
    refine E.thenR ?_
    refine E.ret2 rfl rfl rfl (fun w1 hw => ?_)
    obtain rfl := Option.some.inj h
    exact ⟨_, _, rfl, ⟨rfl, rfl⟩, hw⟩
  ·
    refine L.nil ?_
    refine E.thenN ?_
    refine W.condF rfl ?_
    refine W.skip ?_
    refine E.thenN ?_
    refine W.seq ?_
    refine W.region ?_
    refine L.y rfl (Y.move rfl) ?_
    refine L.y rfl (Y.lenS Try.underlying9 rfl) ?_
    refine L.y rfl (Y.conv Try.underlying3 Try.underlying41 rfl) ?_
    obtain ⟨s26, e27, h⟩ := bind1S h
    refine L.y rfl (Y.does en35 rfl (fun w' hw => (w35_code_PutNat (IntKind.wrap .u64 (a0.length : Int)) w' _ e27).mono (fun _ _ h => h.1))) ?_
    refine L.y rfl (Y.move rfl) ?_
    refine L.m (V := fun s28 => st s28) h rfl (Y.catM rfl rfl) (fun s28 es28 h => ?_)
    refine L.y rfl (Y.assign rfl) ?_
    refine L.y rfl (Y.assign rfl) ?_
    refine L.nil ?_
    refine E.thenN ?_
    refine W.ret ?_
    refine E.ret2 rfl rfl rfl (fun w1 hw => ?_)
    obtain rfl := Option.some.inj h
    exact ⟨_, _, rfl, ⟨rfl, rfl⟩, hw⟩
set_option maxRecDepth 100000 in
theorem w28_quirref_GetNat (a0 : (List UInt8)) (w : World) (r : (Int × Int × Int)) (h : m28_quirref_GetNat a0 = some r) : Does Try.prog 28 [st a0] w fun u m => u = .tuple #[.int .u64 r.1, .int .i64 r.2.1, .int .i64 r.2.2] ∧ m = [] := by
  rw [m28_quirref_GetNat] at h
  refine body (n := 50) Try.func28 rfl rfl rfl (Cls.refl w) ?_
  refine W.seq ?_
  refine W.region ?_
  refine L.y rfl (Y.assign rfl) ?_
  refine L.y rfl (Y.assign rfl) ?_
  refine L.y rfl (Y.assign rfl) ?_
  refine L.nil ?_
  refine E.thenN ?_
  refine W.seqJ (fun gs D => gs = [] ∧ D = Cls w [] [] ∧ m28_quirref_GetNat_K1 = some r) ?_ ?_
  ·
    refine W.seq ?_
    refine W.region ?_
    refine L.y rfl (Y.move rfl) ?_
    refine L.y rfl (Y.lenS Try.underlying9 rfl) ?_
    refine L.y rfl (Y.move rfl) ?_
    refine L.nil ?_
    refine E.thenN ?_
    refine W.block ?_
    refine W.loopJ (fun m gs D => ∃ (x8514 : Int), gs = [(0, st a0), (9, .int .i64 (a0.length : Int)), (10, .int .i64 x8514)] ∧ D = Cls w [] [] ∧ m28_quirref_GetNat_L1 a0 m x8514 = some r) ⟨0, rfl, rfl, h⟩ ⟨rfl, rfl, rfl, trivial⟩ (fun _ hw => hw) ?_
    rintro m _ _ ⟨x8514, rfl, rfl, h⟩
    rcases m with _ | m
    · rw [m28_quirref_GetNat_L1] at h; cases h
    rw [m28_quirref_GetNat_L1] at h
    generalize hg1 : m28_quirref_GetNat_L1 a0 m = go1 at h
    rw [m28_quirref_GetNat_L1B] at h
    refine W.seq ?_
    refine W.region ?_
    refine L.ite h rfl (Y.lss rfl rfl) (fun c10643 h => ?_) (fun c10643 h => ?_)
    ·
      refine L.nil ?_
      refine E.thenN ?_
      refine W.seq ?_
      refine W.condT rfl ?_
      refine W.skip ?_
      refine E.thenN ?_
      refine W.seqJ (fun gs D => gs = [(0, st a0), (9, .int .i64 (a0.length : Int)), (10, .int .i64 x8514)] ∧ D = Cls w [] [] ∧ m28_quirref_GetNat_K2 x8514 go1 = some r) ?_ ?_
      ·
        refine W.block ?_
        refine W.seq ?_
        refine W.region ?_
        refine L.y rfl (Y.move rfl) ?_
        refine L.y rfl (Y.assign rfl) ?_
        refine L.nil ?_
        refine E.thenN ?_
        refine W.seqJ (fun gs D => gs = [(0, st a0), (5, .int .i64 x8514), (9, .int .i64 (a0.length : Int)), (10, .int .i64 x8514)] ∧ D = Cls w [] [] ∧ m28_quirref_GetNat_K3 a0 x8514 go1 = some r) ?_ ?_
        ·
          refine W.seq ?_
          refine W.region ?_
          refine L.y rfl (Y.move rfl) ?_
          refine L.ite h rfl (Y.eql rfl rfl) (fun c12768 h => ?_) (fun c12768 h => ?_)
          ·
            refine L.y rfl (Y.move rfl) ?_
            refine L.take rfl ?_
            refine L.y rfl (Y.move rfl) ?_
            refine L.take rfl ?_
            refine L.y rfl (Y.move rfl) ?_
            refine L.take rfl ?_
            refine L.m (V := fun x12769 => .int .u8 x12769) h rfl (Y.indexSM Try.underlying9 rfl rfl) (fun x12769 ex12769 h => ?_)
            refine L.take rfl ?_
            refine L.ite h rfl (Y.gtr rfl rfl) (fun c12770 h => ?_) (fun c12770 h => ?_)
            ·
              refine L.y rfl (Y.pickT rfl rfl) ?_
              refine L.nil ?_
              refine E.thenN ?_
              refine W.condT rfl ?_
              refine W.seq ?_
              refine W.region ?_
              refine L.y rfl (Y.assign rfl) ?_
              refine L.y rfl (Y.assign rfl) ?_
              refine L.y rfl (Y.assign rfl) ?_
              refine L.nil ?_
              refine E.thenN ?_
              refine W.ret ?_
              refine E.KSR ?_
              refine E.blockR ?_
              refine E.KSR ?_
              refine E.KLR ?_
              refine E.blockR ?_
              refine E.KSR ?_
              refine E.ret3 rfl rfl rfl rfl (fun w1 hw => ?_)
              obtain rfl := Option.some.inj h
              exact ⟨_, _, rfl, ⟨rfl, rfl⟩, hw⟩
            ·
              refine L.y rfl (Y.pickT rfl rfl) ?_
              refine L.nil ?_
              refine E.thenN ?_
              refine W.condF rfl ?_
              refine W.skip ?_
              exact E.joinJ ⟨rfl, rfl, h⟩ ⟨rfl, rfl, rfl, rfl, trivial⟩ (fun _ hw => hw)
          ·
            refine L.y rfl (Y.move rfl) ?_
            refine L.pass rfl rfl (by nofun) ?_
            refine L.pass rfl rfl (by nofun) ?_
            refine L.pass rfl rfl (by nofun) ?_
            refine L.pass rfl rfl (by nofun) ?_
            refine L.y rfl (Y.pickF rfl rfl) ?_
            refine L.nil ?_
            refine E.thenN ?_
            refine W.condF rfl ?_
            refine W.skip ?_
            exact E.joinJ ⟨rfl, rfl, h⟩ ⟨rfl, rfl, rfl, rfl, trivial⟩ (fun _ hw => hw)
        ·
          rintro _ _ ⟨rfl, rfl, h⟩
          rw [m28_quirref_GetNat_K3] at h
          refine W.seqJ (fun gs D => gs = [(0, st a0), (5, .int .i64 x8514)] ∧ D = Cls w [] [] ∧ m28_quirref_GetNat_K4 a0 x8514 = some r) ?_ ?_
          ·
            refine W.seq ?_
            refine W.region ?_
            refine L.y rfl (Y.move rfl) ?_
            refine L.y rfl (Y.move rfl) ?_
            refine L.m (V := fun x12763 => .int .u8 x12763) h rfl (Y.indexSM Try.underlying9 rfl rfl) (fun x12763 ex12763 h => ?_)
            refine L.ite h rfl (Y.geq rfl rfl) (fun c12764 h => ?_) (fun c12764 h => ?_)
            ·
              refine L.nil ?_
              refine E.thenN ?_
              refine W.condT rfl ?_
              refine W.exit ?_
              refine E.KSX ?_
              refine E.blockX ?_
              exact E.joinJ ⟨rfl, rfl, h⟩ ⟨rfl, rfl, rfl, trivial⟩ (fun _ hw => hw)
            ·
              refine L.nil ?_
              refine E.thenN ?_
              refine W.condF rfl ?_
              refine W.skip ?_
              exact E.joinJ ⟨rfl, rfl, h⟩ ⟨rfl, rfl, trivial⟩ (fun _ hw => hw)
          ·
            rintro _ _ ⟨rfl, rfl, h⟩
            rw [m28_quirref_GetNat_K4] at h
            refine W.seqJ (fun gs D => gs = [(0, st a0), (5, .int .i64 x8514)] ∧ D = Cls w [] [] ∧ m28_quirref_GetNat_K5 a0 x8514 = some r) ?_ ?_
            ·
              refine W.seq ?_
              refine W.region ?_
              refine L.y rfl (Y.move rfl) ?_
              refine L.y rfl (Y.move rfl) ?_
              refine L.m (V := fun x12758 => .int .u8 x12758) h rfl (Y.indexSM Try.underlying9 rfl rfl) (fun x12758 ex12758 h => ?_)
              refine L.ite h rfl (Y.eql rfl rfl) (fun c12759 h => ?_) (fun c12759 h => ?_)
              ·
                refine L.y rfl (Y.move rfl) ?_
                refine L.take rfl ?_
                refine L.y rfl (Y.move rfl) ?_
                refine L.take rfl ?_
                refine L.ite h rfl (Y.gtr rfl rfl) (fun c12760 h => ?_) (fun c12760 h => ?_)
                ·
                  refine L.y rfl (Y.pickT rfl rfl) ?_
                  refine L.nil ?_
                  refine E.thenN ?_
                  refine W.condT rfl ?_
                  refine W.seq ?_
                  refine W.region ?_
                  refine L.y rfl (Y.assign rfl) ?_
                  refine L.y rfl (Y.assign rfl) ?_
                  refine L.y rfl (Y.assign rfl) ?_
                  refine L.nil ?_
                  refine E.thenN ?_
                  refine W.ret ?_
                  refine E.KSR ?_
                  refine E.blockR ?_
                  refine E.KSR ?_
                  refine E.KLR ?_
                  refine E.blockR ?_
                  refine E.KSR ?_
                  refine E.ret3 rfl rfl rfl rfl (fun w1 hw => ?_)
                  obtain rfl := Option.some.inj h
                  exact ⟨_, _, rfl, ⟨rfl, rfl⟩, hw⟩
                ·
                  refine L.y rfl (Y.pickT rfl rfl) ?_
                  refine L.nil ?_
                  refine E.thenN ?_
                  refine W.condF rfl ?_
                  refine W.skip ?_
                  exact E.joinJ ⟨rfl, rfl, h⟩ ⟨rfl, rfl, trivial⟩ (fun _ hw => hw)
              ·
                refine L.y rfl (Y.move rfl) ?_
                refine L.pass rfl rfl (by nofun) ?_
                refine L.pass rfl rfl (by nofun) ?_
                refine L.y rfl (Y.pickF rfl rfl) ?_
                refine L.nil ?_
                refine E.thenN ?_
                refine W.condF rfl ?_
                refine W.skip ?_
                exact E.joinJ ⟨rfl, rfl, h⟩ ⟨rfl, rfl, trivial⟩ (fun _ hw => hw)
            ·
              rintro _ _ ⟨rfl, rfl, h⟩
              rw [m28_quirref_GetNat_K5] at h
              refine W.seq ?_
              refine W.region ?_
              refine L.y rfl (Y.assign rfl) ?_
              refine L.nil ?_
              refine E.thenN ?_
              refine W.seqJ (fun gs D => ∃ (x12678 : Int), gs = [(5, .int .i64 x8514), (6, .int .u64 x12678)] ∧ D = Cls w [] [] ∧ m28_quirref_GetNat_K6 x8514 x12678 = some r) ?_ ?_
              ·
                refine W.seq ?_
                refine W.region ?_
                refine L.y rfl (Y.move rfl) ?_
                refine L.y rfl (Y.assign rfl) ?_
                refine L.nil ?_
                refine E.thenN ?_
                refine W.block ?_
                refine W.loopJ (fun m gs D => ∃ (x12705 : Int) (x12706 : Int), gs = [(0, st a0), (5, .int .i64 x8514), (6, .int .u64 x12705), (7, .int .i64 x12706)] ∧ D = Cls w [] [] ∧ m28_quirref_GetNat_L2 a0 x8514 m x12705 x12706 = some r) ⟨0, x8514, rfl, rfl, h⟩ ⟨rfl, rfl, rfl, rfl, trivial⟩ (fun _ hw => hw) ?_
                rintro m _ _ ⟨x12705, x12706, rfl, rfl, h⟩
                rcases m with _ | m
                · rw [m28_quirref_GetNat_L2] at h; cases h
                rw [m28_quirref_GetNat_L2] at h
                generalize hg2 : m28_quirref_GetNat_L2 a0 x8514 m = go2 at h
                rw [m28_quirref_GetNat_L2B] at h
                refine W.seq ?_
                refine W.seq ?_
                refine W.region ?_
                refine L.y rfl (Y.move rfl) ?_
                refine L.ite h rfl (Y.geq rfl rfl) (fun c12749 h => ?_) (fun c12749 h => ?_)
                ·
                  refine L.nil ?_
                  refine E.thenN ?_
                  refine W.condT rfl ?_
                  refine W.skip ?_
                  refine E.thenN ?_
                  refine W.seq ?_
                  refine W.block ?_
                  refine W.region ?_
                  refine L.y rfl (Y.move rfl) ?_
                  refine L.y rfl (Y.mulW rfl rfl) ?_
                  refine L.y rfl (Y.move rfl) ?_
                  refine L.y rfl (Y.move rfl) ?_
                  refine L.m (V := fun x12752 => .int .u8 x12752) h rfl (Y.indexSM Try.underlying9 rfl rfl) (fun x12752 ex12752 h => ?_)
                  refine L.m (V := fun x12753 => .int .u8 x12753) h rfl (Y.remM rfl rfl) (fun x12753 ex12753 h => ?_)
                  refine L.y rfl (Y.conv Try.underlying5 Try.underlying41 rfl) ?_
                  refine L.y rfl (Y.addW rfl rfl) ?_
                  refine L.y rfl (Y.assign rfl) ?_
                  refine L.nil ?_
                  refine E.blockN ?_
                  refine E.thenN ?_
                  refine W.region ?_
                  refine L.y rfl (Y.move rfl) ?_
                  refine L.m (V := fun x12754 => .int .i64 x12754) h rfl (Y.subM rfl rfl) (fun x12754 ex12754 h => ?_)
                  refine L.y rfl (Y.assign rfl) ?_
                  refine L.nil ?_
                  exact E.againJ ⟨IntKind.wrap .u64 ((IntKind.wrap .u64 (x12705 * 128)) + (IntKind.wrap .u64 x12753)), x12754, rfl, rfl, by rw [hg2]; exact h⟩ (Nat.lt_succ_self _) ⟨rfl, rfl, rfl, rfl, trivial⟩ (fun _ hw => hw)
                ·
                  refine L.nil ?_
                  refine E.thenN ?_
                  refine W.condF rfl ?_
                  refine W.exit ?_
                  refine E.thenX ?_
                  refine E.KLX ?_
                  refine E.blockX ?_
                  exact E.joinJ ⟨x12705, rfl, rfl, h⟩ ⟨rfl, rfl, trivial⟩ (fun _ hw => hw)
              ·
                rintro _ _ ⟨x12678, rfl, rfl, h⟩
                rw [m28_quirref_GetNat_K6] at h
                refine W.seq ?_
                refine W.region ?_
                refine L.y rfl (Y.move rfl) ?_
                refine L.y rfl (Y.move rfl) ?_
                refine L.m (V := fun x12680 => .int .i64 x12680) h rfl (Y.addM rfl rfl) (fun x12680 ex12680 h => ?_)
                refine L.y rfl (Y.assign rfl) ?_
                refine L.y rfl (Y.assign rfl) ?_
                refine L.y rfl (Y.assign rfl) ?_
                refine L.nil ?_
                refine E.thenN ?_
                refine W.ret ?_
                refine E.blockR ?_
                refine E.KSR ?_
                refine E.KLR ?_
                refine E.blockR ?_
                refine E.KSR ?_
                refine E.ret3 rfl rfl rfl rfl (fun w1 hw => ?_)
                obtain rfl := Option.some.inj h
                exact ⟨_, _, rfl, ⟨rfl, rfl⟩, hw⟩
      ·
        rintro _ _ ⟨rfl, rfl, h⟩
        rw [m28_quirref_GetNat_K2] at h
        refine W.region ?_
        refine L.m (V := fun x11707 => .int .i64 x11707) h rfl (Y.addM rfl rfl) (fun x11707 ex11707 h => ?_)
        refine L.y rfl (Y.move rfl) ?_
        refine L.nil ?_
        exact E.againJ ⟨x11707, rfl, rfl, by rw [hg1]; exact h⟩ (Nat.lt_succ_self _) ⟨rfl, rfl, rfl, trivial⟩ (fun _ hw => hw)
    ·
      refine L.nil ?_
      refine E.thenN ?_
      refine W.seq ?_
      refine W.condF rfl ?_
      refine W.exit ?_
      refine E.thenX ?_
      refine E.KLX ?_
      refine E.blockX ?_
      exact E.joinJ ⟨rfl, rfl, h⟩ trivial (fun _ hw => hw)
  ·
    rintro _ _ ⟨rfl, rfl, h⟩
    rw [m28_quirref_GetNat_K1] at h
    refine W.seq ?_
    refine W.region ?_
    refine L.y rfl (Y.assign rfl) ?_
    refine L.y rfl (Y.assign rfl) ?_
    refine L.y rfl (Y.assign rfl) ?_
    refine L.nil ?_
    refine E.thenN ?_
    refine W.ret ?_
    refine E.ret3 rfl rfl rfl rfl (fun w1 hw => ?_)
    obtain rfl := Option.some.inj h
    exact ⟨_, _, rfl, ⟨rfl, rfl⟩, hw⟩
set_option maxRecDepth 100000 in
theorem w30_quirref_GetInt (a0 : (List UInt8)) (w : World) (r : (Int × Int × Int)) (h : m30_quirref_GetInt a0 = some r) : Does Try.prog 30 [st a0] w fun u m => u = .tuple #[.int .i64 r.1, .int .i64 r.2.1, .int .i64 r.2.2] ∧ m = [] := by
  rw [m30_quirref_GetInt] at h
  refine body (n := 30) Try.func30 rfl rfl rfl (Cls.refl w) ?_
  refine W.seq ?_
  refine W.region ?_
  refine L.y rfl (Y.assign rfl) ?_
  refine L.y rfl (Y.assign rfl) ?_
  refine L.y rfl (Y.assign rfl) ?_
  refine L.nil ?_
  refine E.thenN ?_
  refine W.seq ?_
  refine W.region ?_
  refine L.y rfl (Y.move rfl) ?_
  obtain ⟨x5, x6, x7, e8, h⟩ := bind3S h
  refine L.y rfl (Y.does en28 rfl (fun w' hw => (w28_quirref_GetNat a0 w' _ e8).mono (fun _ _ h => h.1))) ?_
  refine L.y rfl (Y.move rfl) ?_
  refine L.y rfl (Y.extract rfl rfl) ?_
  refine L.y rfl (Y.extract rfl rfl) ?_
  refine L.y rfl (Y.extract rfl rfl) ?_
  refine L.y rfl (Y.assign rfl) ?_
  refine L.y rfl (Y.assign rfl) ?_
  refine L.y rfl (Y.assign rfl) ?_
  refine L.nil ?_
  refine E.thenN ?_
  refine W.seqJ (fun gs D => gs = [(5, .int .u64 x5), (6, .int .i64 x6)] ∧ D = Cls w [] [] ∧ m30_quirref_GetInt_K1 x5 x6 = some r) ?_ ?_
  ·
    refine W.seq ?_
    refine W.region ?_
    refine L.y rfl (Y.move rfl) ?_
    refine L.ite h rfl (Y.neq rfl rfl) (fun c108 h => ?_) (fun c108 h => ?_)
    ·
      refine L.nil ?_
      refine E.thenN ?_
      refine W.condT rfl ?_
      refine W.seq ?_
      refine W.region ?_
      refine L.y rfl (Y.move rfl) ?_
      refine L.y rfl (Y.assign rfl) ?_
      refine L.y rfl (Y.assign rfl) ?_
      refine L.y rfl (Y.assign rfl) ?_
      refine L.nil ?_
      refine E.thenN ?_
      refine W.ret ?_
      refine E.KSR ?_
      refine E.ret3 rfl rfl rfl rfl (fun w1 hw => ?_)
      obtain rfl := Option.some.inj h
      exact ⟨_, _, rfl, ⟨rfl, rfl⟩, hw⟩
    ·
      refine L.nil ?_
      refine E.thenN ?_
      refine W.condF rfl ?_
      refine W.skip ?_
      exact E.joinJ ⟨rfl, rfl, h⟩ ⟨rfl, rfl, trivial⟩ (fun _ hw => hw)
  ·
    rintro _ _ ⟨rfl, rfl, h⟩
    rw [m30_quirref_GetInt_K1] at h
    refine W.seq ?_
    refine W.seq ?_
    refine W.region ?_
    refine L.y rfl (Y.move rfl) ?_
    refine L.m (V := fun x99 => .int .u64 x99) h rfl (Y.remM rfl rfl) (fun x99 ex99 h => ?_)
    refine L.ite h rfl (Y.eql rfl rfl) (fun c100 h => ?_) (fun c100 h => ?_)
    ·
      refine L.nil ?_
      refine E.thenN ?_
      refine W.condT rfl ?_
      refine W.seq ?_
      refine W.region ?_
      refine L.y rfl (Y.move rfl) ?_
      refine L.m (V := fun x103 => .int .u64 x103) h rfl (Y.quoM rfl rfl) (fun x103 ex103 h => ?_)
      refine L.y rfl (Y.conv Try.underlying41 Try.underlying3 rfl) ?_
      refine L.y rfl (Y.neg rfl) ?_
      refine L.m (V := fun x104 => .int .i64 x104) h rfl (Y.subM rfl rfl) (fun x104 ex104 h => ?_)
      refine L.y rfl (Y.move rfl) ?_
      refine L.y rfl (Y.assign rfl) ?_
      refine L.y rfl (Y.assign rfl) ?_
      refine L.y rfl (Y.assign rfl) ?_
      refine L.nil ?_
      refine E.thenN ?_
      refine W.ret ?_
      refine E.thenR ?_
      refine E.ret3 rfl rfl rfl rfl (fun w1 hw => ?_)
      obtain rfl := Option.some.inj h
      exact ⟨_, _, rfl, ⟨rfl, rfl⟩, hw⟩
    ·
      refine L.nil ?_
      refine E.thenN ?_
      refine W.condF rfl ?_
      refine W.skip ?_
      refine E.thenN ?_
      refine W.seq ?_
      refine W.region ?_
      refine L.y rfl (Y.move rfl) ?_
      refine L.m (V := fun x106 => .int .u64 x106) h rfl (Y.quoM rfl rfl) (fun x106 ex106 h => ?_)
      refine L.y rfl (Y.conv Try.underlying41 Try.underlying3 rfl) ?_
      refine L.y rfl (Y.move rfl) ?_
      refine L.y rfl (Y.assign rfl) ?_
      refine L.y rfl (Y.assign rfl) ?_
      refine L.y rfl (Y.assign rfl) ?_
      refine L.nil ?_
      refine E.thenN ?_
      refine W.ret ?_
      refine E.ret3 rfl rfl rfl rfl (fun w1 hw => ?_)
      obtain rfl := Option.some.inj h
      exact ⟨_, _, rfl, ⟨rfl, rfl⟩, hw⟩
set_option maxRecDepth 100000 in
theorem w32_quirref_GetText (a0 : (List UInt8)) (w : World) (r : ((List UInt8) × Int × Int)) (h : m32_quirref_GetText a0 = some r) : Does Try.prog 32 [st a0] w fun u m => u = .tuple #[st r.1, .int .i64 r.2.1, .int .i64 r.2.2] ∧ m = [] := by
  rw [m32_quirref_GetText] at h
  refine body (n := 37) Try.func32 rfl rfl rfl (Cls.refl w) ?_
  refine W.seq ?_
  refine W.region ?_
  refine L.y rfl (Y.assign rfl) ?_
  refine L.y rfl (Y.assign rfl) ?_
  refine L.y rfl (Y.assign rfl) ?_
  refine L.nil ?_
  refine E.thenN ?_
  refine W.seq ?_
  refine W.region ?_
  refine L.y rfl (Y.move rfl) ?_
  obtain ⟨x5, x6, x7, e8, h⟩ := bind3S h
  refine L.y rfl (Y.does en28 rfl (fun w' hw => (w28_quirref_GetNat a0 w' _ e8).mono (fun _ _ h => h.1))) ?_
  refine L.y rfl (Y.move rfl) ?_
  refine L.y rfl (Y.extract rfl rfl) ?_
  refine L.y rfl (Y.extract rfl rfl) ?_
  refine L.y rfl (Y.extract rfl rfl) ?_
  refine L.y rfl (Y.assign rfl) ?_
  refine L.y rfl (Y.assign rfl) ?_
  refine L.y rfl (Y.assign rfl) ?_
  refine L.nil ?_
  refine E.thenN ?_
  refine W.seqJ (fun gs D => gs = [(0, st a0), (5, .int .u64 x5), (6, .int .i64 x6)] ∧ D = Cls w [] [] ∧ m32_quirref_GetText_K1 x5 a0 x6 = some r) ?_ ?_
  ·
    refine W.seq ?_
    refine W.region ?_
    refine L.y rfl (Y.move rfl) ?_
    refine L.ite h rfl (Y.neq rfl rfl) (fun c218 h => ?_) (fun c218 h => ?_)
    ·
      refine L.nil ?_
      refine E.thenN ?_
      refine W.condT rfl ?_
      refine W.seq ?_
      refine W.region ?_
      refine L.y rfl (Y.move rfl) ?_
      refine L.y rfl (Y.assign rfl) ?_
      refine L.y rfl (Y.assign rfl) ?_
      refine L.y rfl (Y.assign rfl) ?_
      refine L.nil ?_
      refine E.thenN ?_
      refine W.ret ?_
      refine E.KSR ?_
      refine E.ret3 rfl rfl rfl rfl (fun w1 hw => ?_)
      obtain rfl := Option.some.inj h
      exact ⟨_, _, rfl, ⟨rfl, rfl⟩, hw⟩
    ·
      refine L.nil ?_
      refine E.thenN ?_
      refine W.condF rfl ?_
      refine W.skip ?_
      exact E.joinJ ⟨rfl, rfl, h⟩ ⟨rfl, rfl, rfl, trivial⟩ (fun _ hw => hw)
  ·
    rintro _ _ ⟨rfl, rfl, h⟩
    rw [m32_quirref_GetText_K1] at h
    refine W.seqJ (fun gs D => gs = [(0, st a0), (5, .int .u64 x5), (6, .int .i64 x6)] ∧ D = Cls w [] [] ∧ m32_quirref_GetText_K2 a0 x6 x5 = some r) ?_ ?_
    ·
      refine W.seq ?_
      refine W.region ?_
      refine L.y rfl (Y.move rfl) ?_
      refine L.ite h rfl (Y.gtr rfl rfl) (fun c216 h => ?_) (fun c216 h => ?_)
      ·
        refine L.nil ?_
        refine E.thenN ?_
        refine W.condT rfl ?_
        refine W.seq ?_
        refine W.region ?_
        refine L.y rfl (Y.assign rfl) ?_
        refine L.y rfl (Y.assign rfl) ?_
        refine L.y rfl (Y.assign rfl) ?_
        refine L.nil ?_
        refine E.thenN ?_
        refine W.ret ?_
        refine E.KSR ?_
        refine E.ret3 rfl rfl rfl rfl (fun w1 hw => ?_)
        obtain rfl := Option.some.inj h
        exact ⟨_, _, rfl, ⟨rfl, rfl⟩, hw⟩
      ·
        refine L.nil ?_
        refine E.thenN ?_
        refine W.condF rfl ?_
        refine W.skip ?_
        exact E.joinJ ⟨rfl, rfl, h⟩ ⟨rfl, rfl, rfl, trivial⟩ (fun _ hw => hw)
    ·
      rintro _ _ ⟨rfl, rfl, h⟩
      rw [m32_quirref_GetText_K2] at h
      refine W.seqJ (fun gs D => gs = [(0, st a0), (5, .int .u64 x5), (6, .int .i64 x6)] ∧ D = Cls w [] [] ∧ m32_quirref_GetText_K3 x6 x5 a0 = some r) ?_ ?_
      ·
        refine W.seq ?_
        refine W.region ?_
        refine L.y rfl (Y.move rfl) ?_
        refine L.y rfl (Y.lenS Try.underlying9 rfl) ?_
        refine L.y rfl (Y.move rfl) ?_
        refine L.m (V := fun x213 => .int .i64 x213) h rfl (Y.subM rfl rfl) (fun x213 ex213 h => ?_)
        refine L.y rfl (Y.move rfl) ?_
        refine L.y rfl (Y.conv Try.underlying41 Try.underlying3 rfl) ?_
        refine L.ite h rfl (Y.lss rfl rfl) (fun c214 h => ?_) (fun c214 h => ?_)
        ·
          refine L.nil ?_
          refine E.thenN ?_
          refine W.condT rfl ?_
          refine W.seq ?_
          refine W.region ?_
          refine L.y rfl (Y.assign rfl) ?_
          refine L.y rfl (Y.assign rfl) ?_
          refine L.y rfl (Y.assign rfl) ?_
          refine L.nil ?_
          refine E.thenN ?_
          refine W.ret ?_
          refine E.KSR ?_
          refine E.ret3 rfl rfl rfl rfl (fun w1 hw => ?_)
          obtain rfl := Option.some.inj h
          exact ⟨_, _, rfl, ⟨rfl, rfl⟩, hw⟩
        ·
          refine L.nil ?_
          refine E.thenN ?_
          refine W.condF rfl ?_
          refine W.skip ?_
          exact E.joinJ ⟨rfl, rfl, h⟩ ⟨rfl, rfl, rfl, trivial⟩ (fun _ hw => hw)
      ·
        rintro _ _ ⟨rfl, rfl, h⟩
        rw [m32_quirref_GetText_K3] at h
        refine W.seq ?_
        refine W.region ?_
        refine L.y rfl (Y.move rfl) ?_
        refine L.y rfl (Y.move rfl) ?_
        refine L.y rfl (Y.move rfl) ?_
        refine L.y rfl (Y.move rfl) ?_
        refine L.y rfl (Y.conv Try.underlying41 Try.underlying3 rfl) ?_
        refine L.m (V := fun x208 => .int .i64 x208) h rfl (Y.addM rfl rfl) (fun x208 ex208 h => ?_)
        refine L.m (V := fun s209 => st s209) h rfl (Y.sliceSM Try.underlying9 rfl rfl rfl) (fun s209 es209 h => ?_)
        refine L.y rfl (Y.move rfl) ?_
        refine L.y rfl (Y.move rfl) ?_
        refine L.y rfl (Y.conv Try.underlying41 Try.underlying3 rfl) ?_
        refine L.m (V := fun x210 => .int .i64 x210) h rfl (Y.addM rfl rfl) (fun x210 ex210 h => ?_)
        refine L.y rfl (Y.assign rfl) ?_
        refine L.y rfl (Y.assign rfl) ?_
        refine L.y rfl (Y.assign rfl) ?_
        refine L.nil ?_
        refine E.thenN ?_
        refine W.ret ?_
        refine E.ret3 rfl rfl rfl rfl (fun w1 hw => ?_)
        obtain rfl := Option.some.inj h
        exact ⟨_, _, rfl, ⟨rfl, rfl⟩, hw⟩
set_option maxRecDepth 100000 in
theorem w36_quirref_NatR : ∀ (n : Nat) (a0 : Int) (w : World) (r : (List UInt8)) (h : m36_quirref_NatR n a0 = some r), Does Try.prog 36 [.int .u64 a0] w fun u m => u = st r ∧ m = [] := by
  intro n
  induction n with
  | zero => intro a0 w r h; rw [m36_quirref_NatR] at h; cases h
  | succ n ih =>
  intro a0 w r h
  rw [m36_quirref_NatR] at h
  generalize m36_quirref_NatR n = rec at h ih
  rw [m36_quirref_NatB] at h
  refine body (n := 19) Try.func36 rfl rfl rfl (Cls.refl w) ?_
  refine W.seq ?_
  refine W.region ?_
  refine L.y rfl (Y.assign rfl) ?_
  refine L.nil ?_
  refine E.thenN ?_
  refine W.seqJ (fun gs D => gs = [(0, .int .u64 a0)] ∧ D = Cls w [] [] ∧ m36_quirref_Nat_K1 a0 rec = some r) ?_ ?_
  ·
    refine W.seq ?_
    refine W.region ?_
    refine L.y rfl (Y.move rfl) ?_
    refine L.ite h rfl (Y.lss rfl rfl) (fun c73 h => ?_) (fun c73 h => ?_)
    ·
      refine L.nil ?_
      refine E.thenN ?_
      refine W.condT rfl ?_
      refine W.seq ?_
      refine W.region ?_
      refine L.y rfl (Y.move rfl) ?_
      refine L.y rfl (Y.conv Try.underlying41 Try.underlying5 rfl) ?_
      refine L.litOne rfl Try.underlying156 el5 rfl rfl ?_
      intro b75
      refine L.y rfl (Y.convBytes (l := [IntKind.wrap .u8 a0]) Try.underlying156 Try.underlying5 Try.underlying9 rfl (fun w hw => As.at_ (hw.get (i := 0) rfl))) ?_
      refine L.y rfl (Y.assign rfl) ?_
      refine L.nil ?_
      refine E.thenN ?_
      refine W.ret ?_
      refine E.KSR ?_
      refine E.ret1 rfl rfl (fun w1 hw => ?_)
      obtain rfl := Option.some.inj h
      exact ⟨_, _, rfl, ⟨rfl, rfl⟩, hw.sel [] (by decide) rfl⟩
    ·
      refine L.nil ?_
      refine E.thenN ?_
      refine W.condF rfl ?_
      refine W.skip ?_
      exact E.joinJ ⟨rfl, rfl, h⟩ ⟨rfl, trivial⟩ (fun _ hw => hw)
  ·
    rintro _ _ ⟨rfl, rfl, h⟩
    rw [m36_quirref_Nat_K1] at h
    refine W.seqJ (fun gs D => ∃ (s59 : (List UInt8)), gs = [(2, st s59)] ∧ D = Cls w [] [] ∧ m36_quirref_Nat_K2 s59 = some r) ?_ ?_
    ·
      refine W.drawn (k := 11) (D := Cls w [] []) rfl mixed (fun _ hw => hw.drew) (fun _ hw => hw) ?_
      refine V.y (i := 0) (Nx.of (by kernel_rfl) rfl) rfl rfl rfl (Y.move rfl) ?_
      refine V.m (i := 1) (V' := fun x60 => .int .u64 x60) h (Nx.of (by kernel_rfl) rfl) rfl rfl rfl (Y.remM rfl rfl) (fun x60 ex60 h => ?_)
      refine V.y (i := 2) (Nx.of (by kernel_rfl) rfl) rfl rfl rfl (Y.addW rfl rfl) ?_
      refine V.y (i := 3) (Nx.of (by kernel_rfl) rfl) rfl rfl rfl (Y.conv Try.underlying41 Try.underlying5 rfl) ?_
      refine V.y (i := 6) (Nx.of (by kernel_rfl) rfl) rfl rfl rfl (Y.move rfl) ?_
      refine V.m (i := 7) (V' := fun x61 => .int .u64 x61) h (Nx.of (by kernel_rfl) rfl) rfl rfl rfl (Y.quoM rfl rfl) (fun x61 ex61 h => ?_)
      refine V.eff2 (i1 := 4) (i2 := 8) (by kernel_rfl) rfl rfl ?_ ?_
      ·
        refine L.litOne rfl Try.underlying156 el5 rfl rfl ?_
        intro b62
        refine L.nil ?_
        refine E.toV (D' := Cls w [] [.sl (sv b62 1) 5 1 (([IntKind.wrap .u8 (IntKind.wrap .u64 (x60 + 128))]).map (IK .u8))]) (fun _ hw => hw.sel [] (by decide) rfl) (fun _ hw => hw) ?_
        refine V.y (i := 5) (Nx.of (by kernel_rfl) rfl) rfl rfl rfl (Y.convBytes (l := [IntKind.wrap .u8 (IntKind.wrap .u64 (x60 + 128))]) Try.underlying156 Try.underlying5 Try.underlying9 rfl (fun w hw => As.at_ (hw.get (i := 0) rfl))) ?_
        refine V.eff (i := 8) (by kernel_rfl) rfl ?_
        obtain ⟨s63, e64, h⟩ := bind1S h
        refine L.y rfl (Y.does en36 rfl (fun w' hw => (ih x61 w' _ e64).mono (fun _ _ h => h.1))) ?_
        refine L.nil ?_
        refine E.toV (D' := Cls w [] [.sl (sv b62 1) 5 1 (([IntKind.wrap .u8 (IntKind.wrap .u64 (x60 + 128))]).map (IK .u8))]) (fun _ hw => hw) (fun _ hw => hw) ?_
        refine V.m (i := 9) (V' := fun s65 => st s65) h (Nx.of (by kernel_rfl) rfl) rfl rfl rfl (Y.catM rfl rfl) (fun s65 es65 h => ?_)
        refine V.y (i := 10) (Nx.of (by kernel_rfl) rfl) rfl rfl rfl (Y.assign rfl) ?_
        refine V.done (by kernel_rfl) ?_
        exact E.joinJ ⟨s65, rfl, rfl, h⟩ ⟨rfl, trivial⟩ (fun _ hw => hw.sel [] (by decide) rfl)
      ·
        obtain ⟨s66, e67, h⟩ := bind1S h
        refine L.y rfl (Y.does en36 rfl (fun w' hw => (ih x61 w' _ e67).mono (fun _ _ h => h.1))) ?_
        refine L.nil ?_
        refine E.toV (D' := Cls w [] []) (fun _ hw => hw) (fun _ hw => hw) ?_
        refine V.eff (i := 4) (by kernel_rfl) rfl ?_
        refine L.litOne rfl Try.underlying156 el5 rfl rfl ?_
        intro b68
        refine L.nil ?_
        refine E.toV (D' := Cls w [] [.sl (sv b68 1) 5 1 (([IntKind.wrap .u8 (IntKind.wrap .u64 (x60 + 128))]).map (IK .u8))]) (fun _ hw => hw.sel [] (by decide) rfl) (fun _ hw => hw) ?_
        refine V.y (i := 5) (Nx.of (by kernel_rfl) rfl) rfl rfl rfl (Y.convBytes (l := [IntKind.wrap .u8 (IntKind.wrap .u64 (x60 + 128))]) Try.underlying156 Try.underlying5 Try.underlying9 rfl (fun w hw => As.at_ (hw.get (i := 0) rfl))) ?_
        refine V.m (i := 9) (V' := fun s69 => st s69) h (Nx.of (by kernel_rfl) rfl) rfl rfl rfl (Y.catM rfl rfl) (fun s69 es69 h => ?_)
        refine V.y (i := 10) (Nx.of (by kernel_rfl) rfl) rfl rfl rfl (Y.assign rfl) ?_
        refine V.done (by kernel_rfl) ?_
        exact E.joinJ ⟨s69, rfl, rfl, h⟩ ⟨rfl, trivial⟩ (fun _ hw => hw.sel [] (by decide) rfl)
    ·
      rintro _ _ ⟨s59, rfl, rfl, h⟩
      rw [m36_quirref_Nat_K2] at h
      refine W.ret ?_
      refine E.ret1 rfl rfl (fun w1 hw => ?_)
      obtain rfl := Option.some.inj h
      exact ⟨_, _, rfl, ⟨rfl, rfl⟩, hw⟩
theorem w36_quirref_Nat (a0 : Int) (w : World) (r : (List UInt8)) (h : m36_quirref_Nat a0 = some r) : Does Try.prog 36 [.int .u64 a0] w fun u m => u = st r ∧ m = [] := w36_quirref_NatR big a0 w r h
set_option maxRecDepth 100000 in
theorem w38_quirref_Int (a0 : Int) (w : World) (r : (List UInt8)) (h : m38_quirref_Int a0 = some r) : Does Try.prog 38 [.int .i64 a0] w fun u m => u = st r ∧ m = [] := by
  rw [m38_quirref_Int] at h
  refine body (n := 16) Try.func38 rfl rfl rfl (Cls.refl w) ?_
  refine W.seq ?_
  refine W.region ?_
  refine L.y rfl (Y.assign rfl) ?_
  refine L.nil ?_
  refine E.thenN ?_
  refine W.seq ?_
  refine W.seq ?_
  refine W.region ?_
  refine L.y rfl (Y.move rfl) ?_
  refine L.ite h rfl (Y.lss rfl rfl) (fun c34 h => ?_) (fun c34 h => ?_)
  ·
    refine L.nil ?_
    refine E.thenN ?_
    refine W.condT rfl ?_
    refine W.seq ?_
    refine W.region ?_
    refine L.y rfl (Y.move rfl) ?_
    refine L.m (V := fun x38 => .int .i64 x38) h rfl (Y.addM rfl rfl) (fun x38 ex38 h => ?_)
    refine L.y rfl (Y.neg rfl) ?_
    refine L.y rfl (Y.conv Try.underlying3 Try.underlying41 rfl) ?_
    refine L.y rfl (Y.mulW rfl rfl) ?_
    refine L.y rfl (Y.addW rfl rfl) ?_
    obtain ⟨s39, e40, h⟩ := bind1S h
    refine L.y rfl (Y.does en36 rfl (fun w' hw => (w36_quirref_Nat (IntKind.wrap .u64 ((IntKind.wrap .u64 ((IntKind.wrap .u64 (IntKind.wrap .i64 (-x38))) * 2)) + 1)) w' _ e40).mono (fun _ _ h => h.1))) ?_
    refine L.y rfl (Y.assign rfl) ?_
    refine L.nil ?_
    refine E.thenN ?_
    refine W.ret ?_
    refine E.thenR ?_
    refine E.ret1 rfl rfl (fun w1 hw => ?_)
    obtain rfl := Option.some.inj h
    exact ⟨_, _, rfl, ⟨rfl, rfl⟩, hw⟩
  ·
    refine L.nil ?_
    refine E.thenN ?_
    refine W.condF rfl ?_
    refine W.skip ?_
    refine E.thenN ?_
    refine W.seq ?_
    refine W.region ?_
    refine L.y rfl (Y.move rfl) ?_
    refine L.y rfl (Y.conv Try.underlying3 Try.underlying41 rfl) ?_
    refine L.y rfl (Y.mulW rfl rfl) ?_
    obtain ⟨s43, e44, h⟩ := bind1S h
    refine L.y rfl (Y.does en36 rfl (fun w' hw => (w36_quirref_Nat (IntKind.wrap .u64 ((IntKind.wrap .u64 a0) * 2)) w' _ e44).mono (fun _ _ h => h.1))) ?_
    refine L.y rfl (Y.assign rfl) ?_
    refine L.nil ?_
    refine E.thenN ?_
    refine W.ret ?_
    refine E.ret1 rfl rfl (fun w1 hw => ?_)
    obtain rfl := Option.some.inj h
    exact ⟨_, _, rfl, ⟨rfl, rfl⟩, hw⟩
set_option maxRecDepth 100000 in
theorem w34_quirref_Text (a0 : (List UInt8)) (w : World) (r : (List UInt8)) (h : m34_quirref_Text a0 = some r) : Does Try.prog 34 [st a0] w fun u m => u = st r ∧ m = [] := by
  rw [m34_quirref_Text] at h
  refine body (n := 9) Try.func34 rfl rfl rfl (Cls.refl w) ?_
  refine W.seq ?_
  refine W.region ?_
  refine L.y rfl (Y.assign rfl) ?_
  refine L.nil ?_
  refine E.thenN ?_
  refine W.seq ?_
  refine W.region ?_
  refine L.y rfl (Y.move rfl) ?_
  refine L.y rfl (Y.lenS Try.underlying9 rfl) ?_
  refine L.y rfl (Y.conv Try.underlying3 Try.underlying41 rfl) ?_
  obtain ⟨s4, e5, h⟩ := bind1S h
  refine L.y rfl (Y.does en36 rfl (fun w' hw => (w36_quirref_Nat (IntKind.wrap .u64 (a0.length : Int)) w' _ e5).mono (fun _ _ h => h.1))) ?_
  refine L.y rfl (Y.move rfl) ?_
  refine L.m (V := fun s6 => st s6) h rfl (Y.catM rfl rfl) (fun s6 es6 h => ?_)
  refine L.y rfl (Y.assign rfl) ?_
  refine L.nil ?_
  refine E.thenN ?_
  refine W.ret ?_
  refine E.ret1 rfl rfl (fun w1 hw => ?_)
  obtain rfl := Option.some.inj h
  exact ⟨_, _, rfl, ⟨rfl, rfl⟩, hw⟩
set_option maxRecDepth 100000 in
theorem w6_quirlaw_CodeSays (a0 : Int) (a1 : Int) (a2 : (List UInt8)) (w : World) (r : Bool) (h : m6_quirlaw_CodeSays a0 a1 a2 = some r) : Does Try.prog 6 [.int .u64 a0, .int .i64 a1, st a2] w fun u m => u = .bool r ∧ m = [] := by
  rw [m6_quirlaw_CodeSays] at h
  refine body (n := 146) Try.func6 rfl rfl rfl (Cls.refl w) ?_
  refine W.seq ?_
  refine W.region ?_
  refine L.y rfl (Y.assign rfl) ?_
  refine L.nil ?_
  refine E.thenN ?_
  refine W.seq ?_
  refine W.region ?_
  refine L.y rfl (Y.move rfl) ?_
  obtain ⟨x5, x6, x7, e8, h⟩ := bind3S h
  refine L.y rfl (Y.does en27 rfl (fun w' hw => (w27_code_GetNat a2 w' _ e8).mono (fun _ _ h => h.1))) ?_
  refine L.y rfl (Y.move rfl) ?_
  refine L.y rfl (Y.extract rfl rfl) ?_
  refine L.y rfl (Y.extract rfl rfl) ?_
  refine L.y rfl (Y.extract rfl rfl) ?_
  refine L.y rfl (Y.assign rfl) ?_
  refine L.y rfl (Y.assign rfl) ?_
  refine L.y rfl (Y.assign rfl) ?_
  refine L.nil ?_
  refine E.thenN ?_
  refine W.seq ?_
  refine W.region ?_
  refine L.y rfl (Y.move rfl) ?_
  obtain ⟨x13, x14, x15, e16, h⟩ := bind3S h
  refine L.y rfl (Y.does en28 rfl (fun w' hw => (w28_quirref_GetNat a2 w' _ e16).mono (fun _ _ h => h.1))) ?_
  refine L.y rfl (Y.move rfl) ?_
  refine L.y rfl (Y.extract rfl rfl) ?_
  refine L.y rfl (Y.extract rfl rfl) ?_
  refine L.y rfl (Y.extract rfl rfl) ?_
  refine L.y rfl (Y.assign rfl) ?_
  refine L.y rfl (Y.assign rfl) ?_
  refine L.y rfl (Y.assign rfl) ?_
  refine L.nil ?_
  refine E.thenN ?_
  refine W.seq ?_
  refine W.region ?_
  refine L.y rfl (Y.move rfl) ?_
  obtain ⟨x21, x22, x23, e24, h⟩ := bind3S h
  refine L.y rfl (Y.does en29 rfl (fun w' hw => (w29_code_GetInt a2 w' _ e24).mono (fun _ _ h => h.1))) ?_
  refine L.y rfl (Y.move rfl) ?_
  refine L.y rfl (Y.extract rfl rfl) ?_
  refine L.y rfl (Y.extract rfl rfl) ?_
  refine L.y rfl (Y.extract rfl rfl) ?_
  refine L.y rfl (Y.assign rfl) ?_
  refine L.y rfl (Y.assign rfl) ?_
  refine L.y rfl (Y.assign rfl) ?_
  refine L.nil ?_
  refine E.thenN ?_
  refine W.seq ?_
  refine W.region ?_
  refine L.y rfl (Y.move rfl) ?_
  obtain ⟨x29, x30, x31, e32, h⟩ := bind3S h
  refine L.y rfl (Y.does en30 rfl (fun w' hw => (w30_quirref_GetInt a2 w' _ e32).mono (fun _ _ h => h.1))) ?_
  refine L.y rfl (Y.move rfl) ?_
  refine L.y rfl (Y.extract rfl rfl) ?_
  refine L.y rfl (Y.extract rfl rfl) ?_
  refine L.y rfl (Y.extract rfl rfl) ?_
  refine L.y rfl (Y.assign rfl) ?_
  refine L.y rfl (Y.assign rfl) ?_
  refine L.y rfl (Y.assign rfl) ?_
  refine L.nil ?_
  refine E.thenN ?_
  refine W.seq ?_
  refine W.region ?_
  refine L.y rfl (Y.move rfl) ?_
  obtain ⟨s37, x38, x39, e40, h⟩ := bind3S h
  refine L.y rfl (Y.does en31 rfl (fun w' hw => (w31_code_GetText a2 w' _ e40).mono (fun _ _ h => h.1))) ?_
  refine L.y rfl (Y.move rfl) ?_
  refine L.y rfl (Y.extract rfl rfl) ?_
  refine L.y rfl (Y.extract rfl rfl) ?_
  refine L.y rfl (Y.extract rfl rfl) ?_
  refine L.y rfl (Y.assign rfl) ?_
  refine L.y rfl (Y.assign rfl) ?_
  refine L.y rfl (Y.assign rfl) ?_
  refine L.nil ?_
  refine E.thenN ?_
  refine W.seq ?_
  refine W.region ?_
  refine L.y rfl (Y.move rfl) ?_
  obtain ⟨s45, x46, x47, e48, h⟩ := bind3S h
  refine L.y rfl (Y.does en32 rfl (fun w' hw => (w32_quirref_GetText a2 w' _ e48).mono (fun _ _ h => h.1))) ?_
  refine L.y rfl (Y.move rfl) ?_
  refine L.y rfl (Y.extract rfl rfl) ?_
  refine L.y rfl (Y.extract rfl rfl) ?_
  refine L.y rfl (Y.extract rfl rfl) ?_
  refine L.y rfl (Y.assign rfl) ?_
  refine L.y rfl (Y.assign rfl) ?_
  refine L.y rfl (Y.assign rfl) ?_
  refine L.nil ?_
  refine E.thenN ?_
  refine W.seq ?_
  refine W.region ?_
  refine L.y rfl (Y.move rfl) ?_
  obtain ⟨s52, x53, e54, h⟩ := bind2S h
  refine L.y rfl (Y.does en33 rfl (fun w' hw => (w33_code_PutText a2 w' _ e54).mono (fun _ _ h => h.1))) ?_
  refine L.y rfl (Y.move rfl) ?_
  refine L.y rfl (Y.extract rfl rfl) ?_
  refine L.y rfl (Y.extract rfl rfl) ?_
  refine L.y rfl (Y.assign rfl) ?_
  refine L.y rfl (Y.assign rfl) ?_
  refine L.nil ?_
  refine E.thenN ?_
  refine W.seqJ (fun gs D => ∃ (b414 : Bool), gs = [(0, .int .u64 a0), (1, .int .i64 a1), (2, st a2), (7, .int .u64 x5), (8, .int .i64 x6), (9, .int .i64 x7), (10, .int .u64 x13), (11, .int .i64 x14), (12, .int .i64 x15), (13, .int .i64 x21), (14, .int .i64 x22), (15, .int .i64 x23), (16, .int .i64 x29), (17, .int .i64 x30), (18, .int .i64 x31), (19, st s37), (20, .int .i64 x38), (21, .int .i64 x39), (22, st s45), (23, .int .i64 x46), (24, .int .i64 x47), (25, st s52), (26, .int .i64 x53), (27, .bool b414)] ∧ D = Cls w [] [] ∧ m6_quirlaw_CodeSays_K1 a2 s52 x53 a0 a1 x5 x13 x6 x14 x7 x15 x21 x29 x22 x30 x23 x31 s37 s45 x38 x46 x39 x47 b414 = some r) ?_ ?_
  ·
    refine W.region ?_
    refine L.y rfl (Y.move rfl) ?_
    refine L.y rfl (Y.move rfl) ?_
    obtain ⟨s580, e581, h⟩ := bind1S h
    refine L.y rfl (Y.does en34 rfl (fun w' hw => (w34_quirref_Text a2 w' _ e581).mono (fun _ _ h => h.1))) ?_
    refine L.ite h rfl (Y.eqlS rfl rfl) (fun c582 h => ?_) (fun c582 h => ?_)
    ·
      refine L.y rfl (Y.move rfl) ?_
      refine L.take rfl ?_
      refine L.y rfl (Y.move rfl) ?_
      refine L.take rfl ?_
      refine L.ite h rfl (Y.eql rfl rfl) (fun c583 h => ?_) (fun c583 h => ?_)
      ·
        refine L.y rfl (Y.pickT rfl rfl) ?_
        refine L.y rfl (Y.assign rfl) ?_
        refine L.nil ?_
        exact E.joinJ ⟨true, rfl, rfl, h⟩ ⟨rfl, rfl, rfl, rfl, rfl, rfl, rfl, rfl, rfl, rfl, rfl, rfl, rfl, rfl, rfl, rfl, rfl, rfl, rfl, rfl, rfl, rfl, rfl, rfl, trivial⟩ (fun _ hw => hw)
      ·
        refine L.y rfl (Y.pickT rfl rfl) ?_
        refine L.y rfl (Y.assign rfl) ?_
        refine L.nil ?_
        exact E.joinJ ⟨false, rfl, rfl, h⟩ ⟨rfl, rfl, rfl, rfl, rfl, rfl, rfl, rfl, rfl, rfl, rfl, rfl, rfl, rfl, rfl, rfl, rfl, rfl, rfl, rfl, rfl, rfl, rfl, rfl, trivial⟩ (fun _ hw => hw)
    ·
      refine L.y rfl (Y.move rfl) ?_
      refine L.pass rfl rfl (by nofun) ?_
      refine L.pass rfl rfl (by nofun) ?_
      refine L.y rfl (Y.pickF rfl rfl) ?_
      refine L.y rfl (Y.assign rfl) ?_
      refine L.nil ?_
      exact E.joinJ ⟨false, rfl, rfl, h⟩ ⟨rfl, rfl, rfl, rfl, rfl, rfl, rfl, rfl, rfl, rfl, rfl, rfl, rfl, rfl, rfl, rfl, rfl, rfl, rfl, rfl, rfl, rfl, rfl, rfl, trivial⟩ (fun _ hw => hw)
  ·
    rintro _ _ ⟨b414, rfl, rfl, h⟩
    rw [m6_quirlaw_CodeSays_K1] at h
    refine W.seqJ (fun gs D => ∃ (b535 : Bool), gs = [(0, .int .u64 a0), (1, .int .i64 a1), (7, .int .u64 x5), (8, .int .i64 x6), (9, .int .i64 x7), (10, .int .u64 x13), (11, .int .i64 x14), (12, .int .i64 x15), (13, .int .i64 x21), (14, .int .i64 x22), (15, .int .i64 x23), (16, .int .i64 x29), (17, .int .i64 x30), (18, .int .i64 x31), (19, st s37), (20, .int .i64 x38), (21, .int .i64 x39), (22, st s45), (23, .int .i64 x46), (24, .int .i64 x47), (27, .bool b535)] ∧ D = Cls w [] [] ∧ m6_quirlaw_CodeSays_K2 a0 a1 x5 x13 x6 x14 x7 x15 x21 x29 x22 x30 x23 x31 s37 s45 x38 x46 x39 x47 b535 = some r) ?_ ?_
    ·
      refine W.seq ?_
      refine W.region ?_
      refine L.y rfl (Y.move rfl) ?_
      refine L.y rfl (Y.lenS Try.underlying9 rfl) ?_
      refine L.ite h rfl (Y.gtr rfl rfl) (fun c577 h => ?_) (fun c577 h => ?_)
      ·
        refine L.nil ?_
        refine E.thenN ?_
        refine W.condT rfl ?_
        refine W.region ?_
        refine L.y rfl (Y.move rfl) ?_
        refine L.ite h rfl (Y.eqlS rfl rfl) (fun c578 h => ?_) (fun c578 h => ?_)
        ·
          refine L.y rfl (Y.move rfl) ?_
          refine L.take rfl ?_
          refine L.y rfl (Y.move rfl) ?_
          refine L.take rfl ?_
          refine L.ite h rfl (Y.eql rfl rfl) (fun c579 h => ?_) (fun c579 h => ?_)
          ·
            refine L.y rfl (Y.pickT rfl rfl) ?_
            refine L.y rfl (Y.assign rfl) ?_
            refine L.nil ?_
            exact E.joinJ ⟨true, rfl, rfl, h⟩ ⟨rfl, rfl, rfl, rfl, rfl, rfl, rfl, rfl, rfl, rfl, rfl, rfl, rfl, rfl, rfl, rfl, rfl, rfl, rfl, rfl, rfl, trivial⟩ (fun _ hw => hw)
          ·
            refine L.y rfl (Y.pickT rfl rfl) ?_
            refine L.y rfl (Y.assign rfl) ?_
            refine L.nil ?_
            exact E.joinJ ⟨false, rfl, rfl, h⟩ ⟨rfl, rfl, rfl, rfl, rfl, rfl, rfl, rfl, rfl, rfl, rfl, rfl, rfl, rfl, rfl, rfl, rfl, rfl, rfl, rfl, rfl, trivial⟩ (fun _ hw => hw)
        ·
          refine L.y rfl (Y.move rfl) ?_
          refine L.pass rfl rfl (by nofun) ?_
          refine L.pass rfl rfl (by nofun) ?_
          refine L.y rfl (Y.pickF rfl rfl) ?_
          refine L.y rfl (Y.assign rfl) ?_
          refine L.nil ?_
          exact E.joinJ ⟨false, rfl, rfl, h⟩ ⟨rfl, rfl, rfl, rfl, rfl, rfl, rfl, rfl, rfl, rfl, rfl, rfl, rfl, rfl, rfl, rfl, rfl, rfl, rfl, rfl, rfl, trivial⟩ (fun _ hw => hw)
      ·
        refine L.nil ?_
        refine E.thenN ?_
        refine W.condF rfl ?_
        refine W.skip ?_
        exact E.joinJ ⟨b414, rfl, rfl, h⟩ ⟨rfl, rfl, rfl, rfl, rfl, rfl, rfl, rfl, rfl, rfl, rfl, rfl, rfl, rfl, rfl, rfl, rfl, rfl, rfl, rfl, rfl, trivial⟩ (fun _ hw => hw)
    ·
      rintro _ _ ⟨b535, rfl, rfl, h⟩
      rw [m6_quirlaw_CodeSays_K2] at h
      refine W.seq ?_
      refine W.region ?_
      refine L.y rfl (Y.move rfl) ?_
      obtain ⟨s555, e556, h⟩ := bind1S h
      refine L.y rfl (Y.does en35 rfl (fun w' hw => (w35_code_PutNat a0 w' _ e556).mono (fun _ _ h => h.1))) ?_
      refine L.y rfl (Y.move rfl) ?_
      obtain ⟨s557, e558, h⟩ := bind1S h
      refine L.y rfl (Y.does en36 rfl (fun w' hw => (w36_quirref_Nat a0 w' _ e558).mono (fun _ _ h => h.1))) ?_
      refine L.ite h rfl (Y.eqlS rfl rfl) (fun c559 h => ?_) (fun c559 h => ?_)
      ·
        refine L.y rfl (Y.move rfl) ?_
        refine L.take rfl ?_
        refine L.y rfl (Y.move rfl) ?_
        refine L.take rfl ?_
        obtain ⟨s560, e561, h⟩ := bind1S h
        refine L.y rfl (Y.does en37 rfl (fun w' hw => (w37_code_PutInt a1 w' _ e561).mono (fun _ _ h => h.1))) ?_
        refine L.take rfl ?_
        refine L.y rfl (Y.move rfl) ?_
        refine L.take rfl ?_
        obtain ⟨s562, e563, h⟩ := bind1S h
        refine L.y rfl (Y.does en38 rfl (fun w' hw => (w38_quirref_Int a1 w' _ e563).mono (fun _ _ h => h.1))) ?_
        refine L.take rfl ?_
        refine L.ite h rfl (Y.eqlS rfl rfl) (fun c564 h => ?_) (fun c564 h => ?_)
        ·
          refine L.y rfl (Y.pickT rfl rfl) ?_
          refine L.y rfl (Y.move rfl) ?_
          refine L.take rfl ?_
          refine L.iteB h rfl (Y.move rfl) (fun c565 h => ?_) (fun c565 h => ?_)
          ·
            refine L.y rfl (Y.pickT rfl rfl) ?_
            refine L.y rfl (Y.move rfl) ?_
            refine L.take rfl ?_
            refine L.y rfl (Y.move rfl) ?_
            refine L.take rfl ?_
            refine L.y rfl (Y.move rfl) ?_
            refine L.take rfl ?_
            refine L.ite h rfl (Y.eql rfl rfl) (fun c566 h => ?_) (fun c566 h => ?_)
            ·
              refine L.y rfl (Y.pickT rfl rfl) ?_
              refine L.y rfl (Y.move rfl) ?_
              refine L.take rfl ?_
              refine L.y rfl (Y.move rfl) ?_
              refine L.take rfl ?_
              refine L.y rfl (Y.move rfl) ?_
              refine L.take rfl ?_
              refine L.ite h rfl (Y.eql rfl rfl) (fun c567 h => ?_) (fun c567 h => ?_)
              ·
                refine L.y rfl (Y.pickT rfl rfl) ?_
                refine L.y rfl (Y.move rfl) ?_
                refine L.take rfl ?_
                refine L.y rfl (Y.move rfl) ?_
                refine L.take rfl ?_
                refine L.y rfl (Y.move rfl) ?_
                refine L.take rfl ?_
                refine L.ite h rfl (Y.eql rfl rfl) (fun c568 h => ?_) (fun c568 h => ?_)
                ·
                  refine L.y rfl (Y.pickT rfl rfl) ?_
                  refine L.y rfl (Y.move rfl) ?_
                  refine L.take rfl ?_
                  refine L.y rfl (Y.move rfl) ?_
                  refine L.take rfl ?_
                  refine L.y rfl (Y.move rfl) ?_
                  refine L.take rfl ?_
                  refine L.ite h rfl (Y.eql rfl rfl) (fun c569 h => ?_) (fun c569 h => ?_)
                  ·
                    refine L.y rfl (Y.pickT rfl rfl) ?_
                    refine L.y rfl (Y.move rfl) ?_
                    refine L.take rfl ?_
                    refine L.y rfl (Y.move rfl) ?_
                    refine L.take rfl ?_
                    refine L.y rfl (Y.move rfl) ?_
                    refine L.take rfl ?_
                    refine L.ite h rfl (Y.eql rfl rfl) (fun c570 h => ?_) (fun c570 h => ?_)
                    ·
                      refine L.y rfl (Y.pickT rfl rfl) ?_
                      refine L.y rfl (Y.move rfl) ?_
                      refine L.take rfl ?_
                      refine L.y rfl (Y.move rfl) ?_
                      refine L.take rfl ?_
                      refine L.y rfl (Y.move rfl) ?_
                      refine L.take rfl ?_
                      refine L.ite h rfl (Y.eql rfl rfl) (fun c571 h => ?_) (fun c571 h => ?_)
                      ·
                        refine L.y rfl (Y.pickT rfl rfl) ?_
                        refine L.y rfl (Y.move rfl) ?_
                        refine L.take rfl ?_
                        refine L.y rfl (Y.move rfl) ?_
                        refine L.take rfl ?_
                        refine L.y rfl (Y.move rfl) ?_
                        refine L.take rfl ?_
                        refine L.ite h rfl (Y.eqlS rfl rfl) (fun c572 h => ?_) (fun c572 h => ?_)
                        ·
                          refine L.y rfl (Y.pickT rfl rfl) ?_
                          refine L.y rfl (Y.move rfl) ?_
                          refine L.take rfl ?_
                          refine L.y rfl (Y.move rfl) ?_
                          refine L.take rfl ?_
                          refine L.y rfl (Y.move rfl) ?_
                          refine L.take rfl ?_
                          refine L.ite h rfl (Y.eql rfl rfl) (fun c573 h => ?_) (fun c573 h => ?_)
                          ·
                            refine L.y rfl (Y.pickT rfl rfl) ?_
                            refine L.y rfl (Y.move rfl) ?_
                            refine L.take rfl ?_
                            refine L.y rfl (Y.move rfl) ?_
                            refine L.take rfl ?_
                            refine L.y rfl (Y.move rfl) ?_
                            refine L.take rfl ?_
                            refine L.y rfl (Y.eql rfl rfl) ?_
                            refine L.y rfl (Y.pickT rfl rfl) ?_
                            refine L.y rfl (Y.assign rfl) ?_
                            refine L.nil ?_
                            refine E.thenN ?_
                            refine W.ret ?_
                            refine E.ret1 rfl rfl (fun w1 hw => ?_)
                            obtain rfl := Option.some.inj h
                            exact ⟨_, _, rfl, ⟨rfl, rfl⟩, hw⟩
                          ·
                            refine L.y rfl (Y.pickT rfl rfl) ?_
                            refine L.y rfl (Y.move rfl) ?_
                            refine L.pass rfl rfl (by nofun) ?_
                            refine L.pass rfl rfl (by nofun) ?_
                            refine L.pass rfl rfl (by nofun) ?_
                            refine L.y rfl (Y.pickF rfl rfl) ?_
                            refine L.y rfl (Y.assign rfl) ?_
                            refine L.nil ?_
                            refine E.thenN ?_
                            refine W.ret ?_
                            refine E.ret1 rfl rfl (fun w1 hw => ?_)
                            obtain rfl := Option.some.inj h
                            exact ⟨_, _, rfl, ⟨rfl, rfl⟩, hw⟩
                        ·
                          refine L.y rfl (Y.pickT rfl rfl) ?_
                          refine L.y rfl (Y.move rfl) ?_
                          refine L.pass rfl rfl (by nofun) ?_
                          refine L.pass rfl rfl (by nofun) ?_
                          refine L.pass rfl rfl (by nofun) ?_
                          refine L.y rfl (Y.pickF rfl rfl) ?_
                          refine L.y rfl (Y.move rfl) ?_
                          refine L.pass rfl rfl (by nofun) ?_
                          refine L.pass rfl rfl (by nofun) ?_
                          refine L.pass rfl rfl (by nofun) ?_
                          refine L.y rfl (Y.pickF rfl rfl) ?_
                          refine L.y rfl (Y.assign rfl) ?_
                          refine L.nil ?_
                          refine E.thenN ?_
                          refine W.ret ?_
                          refine E.ret1 rfl rfl (fun w1 hw => ?_)
                          obtain rfl := Option.some.inj h
                          exact ⟨_, _, rfl, ⟨rfl, rfl⟩, hw⟩
                      ·
                        refine L.y rfl (Y.pickT rfl rfl) ?_
                        refine L.y rfl (Y.move rfl) ?_
                        refine L.pass rfl rfl (by nofun) ?_
                        refine L.pass rfl rfl (by nofun) ?_
                        refine L.pass rfl rfl (by nofun) ?_
                        refine L.y rfl (Y.pickF rfl rfl) ?_
                        refine L.y rfl (Y.move rfl) ?_
                        refine L.pass rfl rfl (by nofun) ?_
                        refine L.pass rfl rfl (by nofun) ?_
                        refine L.pass rfl rfl (by nofun) ?_
                        refine L.y rfl (Y.pickF rfl rfl) ?_
                        refine L.y rfl (Y.move rfl) ?_
                        refine L.pass rfl rfl (by nofun) ?_
                        refine L.pass rfl rfl (by nofun) ?_
                        refine L.pass rfl rfl (by nofun) ?_
                        refine L.y rfl (Y.pickF rfl rfl) ?_
                        refine L.y rfl (Y.assign rfl) ?_
                        refine L.nil ?_
                        refine E.thenN ?_
                        refine W.ret ?_
                        refine E.ret1 rfl rfl (fun w1 hw => ?_)
                        obtain rfl := Option.some.inj h
                        exact ⟨_, _, rfl, ⟨rfl, rfl⟩, hw⟩
                    ·
                      refine L.y rfl (Y.pickT rfl rfl) ?_
                      refine L.y rfl (Y.move rfl) ?_
                      refine L.pass rfl rfl (by nofun) ?_
                      refine L.pass rfl rfl (by nofun) ?_
                      refine L.pass rfl rfl (by nofun) ?_
                      refine L.y rfl (Y.pickF rfl rfl) ?_
                      refine L.y rfl (Y.move rfl) ?_
                      refine L.pass rfl rfl (by nofun) ?_
                      refine L.pass rfl rfl (by nofun) ?_
                      refine L.pass rfl rfl (by nofun) ?_
                      refine L.y rfl (Y.pickF rfl rfl) ?_
                      refine L.y rfl (Y.move rfl) ?_
                      refine L.pass rfl rfl (by nofun) ?_
                      refine L.pass rfl rfl (by nofun) ?_
                      refine L.pass rfl rfl (by nofun) ?_
                      refine L.y rfl (Y.pickF rfl rfl) ?_
                      refine L.y rfl (Y.move rfl) ?_
                      refine L.pass rfl rfl (by nofun) ?_
                      refine L.pass rfl rfl (by nofun) ?_
                      refine L.pass rfl rfl (by nofun) ?_
                      refine L.y rfl (Y.pickF rfl rfl) ?_
                      refine L.y rfl (Y.assign rfl) ?_
                      refine L.nil ?_
                      refine E.thenN ?_
                      refine W.ret ?_
                      refine E.ret1 rfl rfl (fun w1 hw => ?_)
                      obtain rfl := Option.some.inj h
                      exact ⟨_, _, rfl, ⟨rfl, rfl⟩, hw⟩
                  ·
                    refine L.y rfl (Y.pickT rfl rfl) ?_
                    refine L.y rfl (Y.move rfl) ?_
                    refine L.pass rfl rfl (by nofun) ?_
                    refine L.pass rfl rfl (by nofun) ?_
                    refine L.pass rfl rfl (by nofun) ?_
                    refine L.y rfl (Y.pickF rfl rfl) ?_
                    refine L.y rfl (Y.move rfl) ?_
                    refine L.pass rfl rfl (by nofun) ?_
                    refine L.pass rfl rfl (by nofun) ?_
                    refine L.pass rfl rfl (by nofun) ?_
                    refine L.y rfl (Y.pickF rfl rfl) ?_
                    refine L.y rfl (Y.move rfl) ?_
                    refine L.pass rfl rfl (by nofun) ?_
                    refine L.pass rfl rfl (by nofun) ?_
                    refine L.pass rfl rfl (by nofun) ?_
                    refine L.y rfl (Y.pickF rfl rfl) ?_
                    refine L.y rfl (Y.move rfl) ?_
                    refine L.pass rfl rfl (by nofun) ?_
                    refine L.pass rfl rfl (by nofun) ?_
                    refine L.pass rfl rfl (by nofun) ?_
                    refine L.y rfl (Y.pickF rfl rfl) ?_
                    refine L.y rfl (Y.move rfl) ?_
                    refine L.pass rfl rfl (by nofun) ?_
                    refine L.pass rfl rfl (by nofun) ?_
                    refine L.pass rfl rfl (by nofun) ?_
                    refine L.y rfl (Y.pickF rfl rfl) ?_
                    refine L.y rfl (Y.assign rfl) ?_
                    refine L.nil ?_
                    refine E.thenN ?_
                    refine W.ret ?_
                    refine E.ret1 rfl rfl (fun w1 hw => ?_)
                    obtain rfl := Option.some.inj h
                    exact ⟨_, _, rfl, ⟨rfl, rfl⟩, hw⟩
                ·
                  refine L.y rfl (Y.pickT rfl rfl) ?_
                  refine L.y rfl (Y.move rfl) ?_
                  refine L.pass rfl rfl (by nofun) ?_
                  refine L.pass rfl rfl (by nofun) ?_
                  refine L.pass rfl rfl (by nofun) ?_
                  refine L.y rfl (Y.pickF rfl rfl) ?_
                  refine L.y rfl (Y.move rfl) ?_
                  refine L.pass rfl rfl (by nofun) ?_
                  refine L.pass rfl rfl (by nofun) ?_
                  refine L.pass rfl rfl (by nofun) ?_
                  refine L.y rfl (Y.pickF rfl rfl) ?_
                  refine L.y rfl (Y.move rfl) ?_
                  refine L.pass rfl rfl (by nofun) ?_
                  refine L.pass rfl rfl (by nofun) ?_
                  refine L.pass rfl rfl (by nofun) ?_
                  refine L.y rfl (Y.pickF rfl rfl) ?_
                  refine L.y rfl (Y.move rfl) ?_
                  refine L.pass rfl rfl (by nofun) ?_
                  refine L.pass rfl rfl (by nofun) ?_
                  refine L.pass rfl rfl (by nofun) ?_
                  refine L.y rfl (Y.pickF rfl rfl) ?_
                  refine L.y rfl (Y.move rfl) ?_
                  refine L.pass rfl rfl (by nofun) ?_
                  refine L.pass rfl rfl (by nofun) ?_
                  refine L.pass rfl rfl (by nofun) ?_
                  refine L.y rfl (Y.pickF rfl rfl) ?_
                  refine L.y rfl (Y.move rfl) ?_
                  refine L.pass rfl rfl (by nofun) ?_
                  refine L.pass rfl rfl (by nofun) ?_
                  refine L.pass rfl rfl (by nofun) ?_
                  refine L.y rfl (Y.pickF rfl rfl) ?_
                  refine L.y rfl (Y.assign rfl) ?_
                  refine L.nil ?_
                  refine E.thenN ?_
                  refine W.ret ?_
                  refine E.ret1 rfl rfl (fun w1 hw => ?_)
                  obtain rfl := Option.some.inj h
                  exact ⟨_, _, rfl, ⟨rfl, rfl⟩, hw⟩
              ·
                refine L.y rfl (Y.pickT rfl rfl) ?_
                refine L.y rfl (Y.move rfl) ?_
                refine L.pass rfl rfl (by nofun) ?_
                refine L.pass rfl rfl (by nofun) ?_
                refine L.pass rfl rfl (by nofun) ?_
                refine L.y rfl (Y.pickF rfl rfl) ?_
                refine L.y rfl (Y.move rfl) ?_
                refine L.pass rfl rfl (by nofun) ?_
                refine L.pass rfl rfl (by nofun) ?_
                refine L.pass rfl rfl (by nofun) ?_
                refine L.y rfl (Y.pickF rfl rfl) ?_
                refine L.y rfl (Y.move rfl) ?_
                refine L.pass rfl rfl (by nofun) ?_
                refine L.pass rfl rfl (by nofun) ?_
                refine L.pass rfl rfl (by nofun) ?_
                refine L.y rfl (Y.pickF rfl rfl) ?_
                refine L.y rfl (Y.move rfl) ?_
                refine L.pass rfl rfl (by nofun) ?_
                refine L.pass rfl rfl (by nofun) ?_
                refine L.pass rfl rfl (by nofun) ?_
                refine L.y rfl (Y.pickF rfl rfl) ?_
                refine L.y rfl (Y.move rfl) ?_
                refine L.pass rfl rfl (by nofun) ?_
                refine L.pass rfl rfl (by nofun) ?_
                refine L.pass rfl rfl (by nofun) ?_
                refine L.y rfl (Y.pickF rfl rfl) ?_
                refine L.y rfl (Y.move rfl) ?_
                refine L.pass rfl rfl (by nofun) ?_
                refine L.pass rfl rfl (by nofun) ?_
                refine L.pass rfl rfl (by nofun) ?_
                refine L.y rfl (Y.pickF rfl rfl) ?_
                refine L.y rfl (Y.move rfl) ?_
                refine L.pass rfl rfl (by nofun) ?_
                refine L.pass rfl rfl (by nofun) ?_
                refine L.pass rfl rfl (by nofun) ?_
                refine L.y rfl (Y.pickF rfl rfl) ?_
                refine L.y rfl (Y.assign rfl) ?_
                refine L.nil ?_
                refine E.thenN ?_
                refine W.ret ?_
                refine E.ret1 rfl rfl (fun w1 hw => ?_)
                obtain rfl := Option.some.inj h
                exact ⟨_, _, rfl, ⟨rfl, rfl⟩, hw⟩
            ·
              refine L.y rfl (Y.pickT rfl rfl) ?_
              refine L.y rfl (Y.move rfl) ?_
              refine L.pass rfl rfl (by nofun) ?_
              refine L.pass rfl rfl (by nofun) ?_
              refine L.pass rfl rfl (by nofun) ?_
              refine L.y rfl (Y.pickF rfl rfl) ?_
              refine L.y rfl (Y.move rfl) ?_
              refine L.pass rfl rfl (by nofun) ?_
              refine L.pass rfl rfl (by nofun) ?_
              refine L.pass rfl rfl (by nofun) ?_
              refine L.y rfl (Y.pickF rfl rfl) ?_
              refine L.y rfl (Y.move rfl) ?_
              refine L.pass rfl rfl (by nofun) ?_
              refine L.pass rfl rfl (by nofun) ?_
              refine L.pass rfl rfl (by nofun) ?_
              refine L.y rfl (Y.pickF rfl rfl) ?_
              refine L.y rfl (Y.move rfl) ?_
              refine L.pass rfl rfl (by nofun) ?_
              refine L.pass rfl rfl (by nofun) ?_
              refine L.pass rfl rfl (by nofun) ?_
              refine L.y rfl (Y.pickF rfl rfl) ?_
              refine L.y rfl (Y.move rfl) ?_
              refine L.pass rfl rfl (by nofun) ?_
              refine L.pass rfl rfl (by nofun) ?_
              refine L.pass rfl rfl (by nofun) ?_
              refine L.y rfl (Y.pickF rfl rfl) ?_
              refine L.y rfl (Y.move rfl) ?_
              refine L.pass rfl rfl (by nofun) ?_
              refine L.pass rfl rfl (by nofun) ?_
              refine L.pass rfl rfl (by nofun) ?_
              refine L.y rfl (Y.pickF rfl rfl) ?_
              refine L.y rfl (Y.move rfl) ?_
              refine L.pass rfl rfl (by nofun) ?_
              refine L.pass rfl rfl (by nofun) ?_
              refine L.pass rfl rfl (by nofun) ?_
              refine L.y rfl (Y.pickF rfl rfl) ?_
              refine L.y rfl (Y.move rfl) ?_
              refine L.pass rfl rfl (by nofun) ?_
              refine L.pass rfl rfl (by nofun) ?_
              refine L.pass rfl rfl (by nofun) ?_
              refine L.y rfl (Y.pickF rfl rfl) ?_
              refine L.y rfl (Y.assign rfl) ?_
              refine L.nil ?_
              refine E.thenN ?_
              refine W.ret ?_
              refine E.ret1 rfl rfl (fun w1 hw => ?_)
              obtain rfl := Option.some.inj h
              exact ⟨_, _, rfl, ⟨rfl, rfl⟩, hw⟩
          ·
            refine L.y rfl (Y.pickT rfl rfl) ?_
            refine L.y rfl (Y.move rfl) ?_
            refine L.pass rfl rfl (by nofun) ?_
            refine L.pass rfl rfl (by nofun) ?_
            refine L.pass rfl rfl (by nofun) ?_
            refine L.y rfl (Y.pickF rfl rfl) ?_
            refine L.y rfl (Y.move rfl) ?_
            refine L.pass rfl rfl (by nofun) ?_
            refine L.pass rfl rfl (by nofun) ?_
            refine L.pass rfl rfl (by nofun) ?_
            refine L.y rfl (Y.pickF rfl rfl) ?_
            refine L.y rfl (Y.move rfl) ?_
            refine L.pass rfl rfl (by nofun) ?_
            refine L.pass rfl rfl (by nofun) ?_
            refine L.pass rfl rfl (by nofun) ?_
            refine L.y rfl (Y.pickF rfl rfl) ?_
            refine L.y rfl (Y.move rfl) ?_
            refine L.pass rfl rfl (by nofun) ?_
            refine L.pass rfl rfl (by nofun) ?_
            refine L.pass rfl rfl (by nofun) ?_
            refine L.y rfl (Y.pickF rfl rfl) ?_
            refine L.y rfl (Y.move rfl) ?_
            refine L.pass rfl rfl (by nofun) ?_
            refine L.pass rfl rfl (by nofun) ?_
            refine L.pass rfl rfl (by nofun) ?_
            refine L.y rfl (Y.pickF rfl rfl) ?_
            refine L.y rfl (Y.move rfl) ?_
            refine L.pass rfl rfl (by nofun) ?_
            refine L.pass rfl rfl (by nofun) ?_
            refine L.pass rfl rfl (by nofun) ?_
            refine L.y rfl (Y.pickF rfl rfl) ?_
            refine L.y rfl (Y.move rfl) ?_
            refine L.pass rfl rfl (by nofun) ?_
            refine L.pass rfl rfl (by nofun) ?_
            refine L.pass rfl rfl (by nofun) ?_
            refine L.y rfl (Y.pickF rfl rfl) ?_
            refine L.y rfl (Y.move rfl) ?_
            refine L.pass rfl rfl (by nofun) ?_
            refine L.pass rfl rfl (by nofun) ?_
            refine L.pass rfl rfl (by nofun) ?_
            refine L.y rfl (Y.pickF rfl rfl) ?_
            refine L.y rfl (Y.move rfl) ?_
            refine L.pass rfl rfl (by nofun) ?_
            refine L.pass rfl rfl (by nofun) ?_
            refine L.pass rfl rfl (by nofun) ?_
            refine L.y rfl (Y.pickF rfl rfl) ?_
            refine L.y rfl (Y.assign rfl) ?_
            refine L.nil ?_
            refine E.thenN ?_
            refine W.ret ?_
            refine E.ret1 rfl rfl (fun w1 hw => ?_)
            obtain rfl := Option.some.inj h
            exact ⟨_, _, rfl, ⟨rfl, rfl⟩, hw⟩
        ·
          refine L.y rfl (Y.pickT rfl rfl) ?_
          refine L.y rfl (Y.move rfl) ?_
          refine L.pass rfl rfl (by nofun) ?_
          refine L.y rfl (Y.pickF rfl rfl) ?_
          refine L.y rfl (Y.move rfl) ?_
          refine L.pass rfl rfl (by nofun) ?_
          refine L.pass rfl rfl (by nofun) ?_
          refine L.pass rfl rfl (by nofun) ?_
          refine L.y rfl (Y.pickF rfl rfl) ?_
          refine L.y rfl (Y.move rfl) ?_
          refine L.pass rfl rfl (by nofun) ?_
          refine L.pass rfl rfl (by nofun) ?_
          refine L.pass rfl rfl (by nofun) ?_
          refine L.y rfl (Y.pickF rfl rfl) ?_
          refine L.y rfl (Y.move rfl) ?_
          refine L.pass rfl rfl (by nofun) ?_
          refine L.pass rfl rfl (by nofun) ?_
          refine L.pass rfl rfl (by nofun) ?_
          refine L.y rfl (Y.pickF rfl rfl) ?_
          refine L.y rfl (Y.move rfl) ?_
          refine L.pass rfl rfl (by nofun) ?_
          refine L.pass rfl rfl (by nofun) ?_
          refine L.pass rfl rfl (by nofun) ?_
          refine L.y rfl (Y.pickF rfl rfl) ?_
          refine L.y rfl (Y.move rfl) ?_
          refine L.pass rfl rfl (by nofun) ?_
          refine L.pass rfl rfl (by nofun) ?_
          refine L.pass rfl rfl (by nofun) ?_
          refine L.y rfl (Y.pickF rfl rfl) ?_
          refine L.y rfl (Y.move rfl) ?_
          refine L.pass rfl rfl (by nofun) ?_
          refine L.pass rfl rfl (by nofun) ?_
          refine L.pass rfl rfl (by nofun) ?_
          refine L.y rfl (Y.pickF rfl rfl) ?_
          refine L.y rfl (Y.move rfl) ?_
          refine L.pass rfl rfl (by nofun) ?_
          refine L.pass rfl rfl (by nofun) ?_
          refine L.pass rfl rfl (by nofun) ?_
          refine L.y rfl (Y.pickF rfl rfl) ?_
          refine L.y rfl (Y.move rfl) ?_
          refine L.pass rfl rfl (by nofun) ?_
          refine L.pass rfl rfl (by nofun) ?_
          refine L.pass rfl rfl (by nofun) ?_
          refine L.y rfl (Y.pickF rfl rfl) ?_
          refine L.y rfl (Y.move rfl) ?_
          refine L.pass rfl rfl (by nofun) ?_
          refine L.pass rfl rfl (by nofun) ?_
          refine L.pass rfl rfl (by nofun) ?_
          refine L.y rfl (Y.pickF rfl rfl) ?_
          refine L.y rfl (Y.assign rfl) ?_
          refine L.nil ?_
          refine E.thenN ?_
          refine W.ret ?_
          refine E.ret1 rfl rfl (fun w1 hw => ?_)
          obtain rfl := Option.some.inj h
          exact ⟨_, _, rfl, ⟨rfl, rfl⟩, hw⟩
      ·
        refine L.y rfl (Y.move rfl) ?_
        refine L.pass rfl rfl (by nofun) ?_
        refine L.pass rfl rfl (by nofun) ?_
        refine L.pass rfl rfl (by nofun) ?_
        refine L.pass rfl rfl (by nofun) ?_
        refine L.pass rfl rfl (by nofun) ?_
        refine L.y rfl (Y.pickF rfl rfl) ?_
        refine L.y rfl (Y.move rfl) ?_
        refine L.pass rfl rfl (by nofun) ?_
        refine L.y rfl (Y.pickF rfl rfl) ?_
        refine L.y rfl (Y.move rfl) ?_
        refine L.pass rfl rfl (by nofun) ?_
        refine L.pass rfl rfl (by nofun) ?_
        refine L.pass rfl rfl (by nofun) ?_
        refine L.y rfl (Y.pickF rfl rfl) ?_
        refine L.y rfl (Y.move rfl) ?_
        refine L.pass rfl rfl (by nofun) ?_
        refine L.pass rfl rfl (by nofun) ?_
        refine L.pass rfl rfl (by nofun) ?_
        refine L.y rfl (Y.pickF rfl rfl) ?_
        refine L.y rfl (Y.move rfl) ?_
        refine L.pass rfl rfl (by nofun) ?_
        refine L.pass rfl rfl (by nofun) ?_
        refine L.pass rfl rfl (by nofun) ?_
        refine L.y rfl (Y.pickF rfl rfl) ?_
        refine L.y rfl (Y.move rfl) ?_
        refine L.pass rfl rfl (by nofun) ?_
        refine L.pass rfl rfl (by nofun) ?_
        refine L.pass rfl rfl (by nofun) ?_
        refine L.y rfl (Y.pickF rfl rfl) ?_
        refine L.y rfl (Y.move rfl) ?_
        refine L.pass rfl rfl (by nofun) ?_
        refine L.pass rfl rfl (by nofun) ?_
        refine L.pass rfl rfl (by nofun) ?_
        refine L.y rfl (Y.pickF rfl rfl) ?_
        refine L.y rfl (Y.move rfl) ?_
        refine L.pass rfl rfl (by nofun) ?_
        refine L.pass rfl rfl (by nofun) ?_
        refine L.pass rfl rfl (by nofun) ?_
        refine L.y rfl (Y.pickF rfl rfl) ?_
        refine L.y rfl (Y.move rfl) ?_
        refine L.pass rfl rfl (by nofun) ?_
        refine L.pass rfl rfl (by nofun) ?_
        refine L.pass rfl rfl (by nofun) ?_
        refine L.y rfl (Y.pickF rfl rfl) ?_
        refine L.y rfl (Y.move rfl) ?_
        refine L.pass rfl rfl (by nofun) ?_
        refine L.pass rfl rfl (by nofun) ?_
        refine L.pass rfl rfl (by nofun) ?_
        refine L.y rfl (Y.pickF rfl rfl) ?_
        refine L.y rfl (Y.move rfl) ?_
        refine L.pass rfl rfl (by nofun) ?_
        refine L.pass rfl rfl (by nofun) ?_
        refine L.pass rfl rfl (by nofun) ?_
        refine L.y rfl (Y.pickF rfl rfl) ?_
        refine L.y rfl (Y.assign rfl) ?_
        refine L.nil ?_
        refine E.thenN ?_
        refine W.ret ?_
        refine E.ret1 rfl rfl (fun w1 hw => ?_)
        obtain rfl := Option.some.inj h
        exact ⟨_, _, rfl, ⟨rfl, rfl⟩, hw⟩
end Go.Proofs.Ytfmgjigdebofaaa
