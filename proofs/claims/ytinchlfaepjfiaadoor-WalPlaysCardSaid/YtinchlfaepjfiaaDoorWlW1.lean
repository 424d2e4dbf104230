/-
  Walks, printed by a program of mine.
  Conditions: none.
-/
import Derived.Test.YtinchlfaepjfiaaDoorWlM
import Derived.Test.YtinchlfaepjfiaaDoorChecked
import Derived.KernelRfl
import Derived.Test.YtinchlfaepjfiaaDoorSh
namespace Go.Proofs.YtinchlfaepjfiaaDoor
open Go.S
set_option linter.unusedVariables false
set_option linter.unusedSimpArgs false
theorem mixed : Tryd.prog.follows .mixedOrders = true := by kernel_rfl
theorem ag3 : aggB Tryd.prog 3 false = true := by kernel_rfl
theorem ag4 : aggB Tryd.prog 4 false = true := by kernel_rfl
theorem ag9 : aggB Tryd.prog 9 false = true := by kernel_rfl
theorem ag23 : aggB Tryd.prog 23 false = true := by kernel_rfl
theorem ag27 : aggB Tryd.prog 27 false = true := by kernel_rfl
theorem ag30 : aggB Tryd.prog 30 false = true := by kernel_rfl
theorem ag37 : aggB Tryd.prog 37 false = true := by kernel_rfl
theorem ag39 : aggB Tryd.prog 39 true = true := by kernel_rfl
theorem ag46 : aggB Tryd.prog 46 false = true := by kernel_rfl
theorem ag52 : aggB Tryd.prog 52 false = true := by kernel_rfl
theorem ag62 : aggB Tryd.prog 62 true = true := by kernel_rfl
theorem ag75 : aggB Tryd.prog 75 true = true := by kernel_rfl
theorem ag110 : aggB Tryd.prog 110 true = true := by kernel_rfl
theorem eL3 : elemB Tryd.prog 3 1 8 = true := by kernel_rfl
theorem eL5 : elemB Tryd.prog 5 1 1 = true := by kernel_rfl
theorem eL9 : elemB Tryd.prog 9 1 16 = true := by kernel_rfl
theorem eL75 : elemB Tryd.prog 75 2 24 = true := by kernel_rfl
theorem en4 : entB Tryd.prog 4 = true := by kernel_rfl
theorem en5 : entB Tryd.prog 5 = true := by kernel_rfl
theorem en6 : entB Tryd.prog 6 = true := by kernel_rfl
theorem en7 : entB Tryd.prog 7 = true := by kernel_rfl
theorem en8 : entB Tryd.prog 8 = true := by kernel_rfl
theorem en9 : entB Tryd.prog 9 = true := by kernel_rfl
theorem en10 : entB Tryd.prog 10 = true := by kernel_rfl
theorem en11 : entB Tryd.prog 11 = true := by kernel_rfl
theorem en12 : entB Tryd.prog 12 = true := by kernel_rfl
theorem en13 : entB Tryd.prog 13 = true := by kernel_rfl
theorem en14 : entB Tryd.prog 14 = true := by kernel_rfl
theorem en15 : entB Tryd.prog 15 = true := by kernel_rfl
theorem en16 : entB Tryd.prog 16 = true := by kernel_rfl
theorem en17 : entB Tryd.prog 17 = true := by kernel_rfl
theorem en18 : entB Tryd.prog 18 = true := by kernel_rfl
theorem en19 : entB Tryd.prog 19 = true := by kernel_rfl
theorem en20 : entB Tryd.prog 20 = true := by kernel_rfl
theorem en21 : entB Tryd.prog 21 = true := by kernel_rfl
theorem en22 : entB Tryd.prog 22 = true := by kernel_rfl
theorem en23 : entB Tryd.prog 23 = true := by kernel_rfl
theorem en24 : entB Tryd.prog 24 = true := by kernel_rfl
theorem en25 : entB Tryd.prog 25 = true := by kernel_rfl
theorem en26 : entB Tryd.prog 26 = true := by kernel_rfl
theorem en27 : entB Tryd.prog 27 = true := by kernel_rfl
theorem en28 : entB Tryd.prog 28 = true := by kernel_rfl
theorem en29 : entB Tryd.prog 29 = true := by kernel_rfl
theorem en30 : entB Tryd.prog 30 = true := by kernel_rfl
theorem en31 : entB Tryd.prog 31 = true := by kernel_rfl
theorem en32 : entB Tryd.prog 32 = true := by kernel_rfl
theorem en33 : entB Tryd.prog 33 = true := by kernel_rfl
theorem en34 : entB Tryd.prog 34 = true := by kernel_rfl
theorem en35 : entB Tryd.prog 35 = true := by kernel_rfl
theorem en36 : entB Tryd.prog 36 = true := by kernel_rfl
theorem en37 : entB Tryd.prog 37 = true := by kernel_rfl
theorem en38 : entB Tryd.prog 38 = true := by kernel_rfl
theorem en39 : entB Tryd.prog 39 = true := by kernel_rfl
theorem en40 : entB Tryd.prog 40 = true := by kernel_rfl
theorem en41 : entB Tryd.prog 41 = true := by kernel_rfl
theorem en42 : entB Tryd.prog 42 = true := by kernel_rfl
theorem en44 : entB Tryd.prog 44 = true := by kernel_rfl
theorem en49 : entB Tryd.prog 49 = true := by kernel_rfl
theorem en50 : entB Tryd.prog 50 = true := by kernel_rfl
theorem en51 : entB Tryd.prog 51 = true := by kernel_rfl
theorem en52 : entB Tryd.prog 52 = true := by kernel_rfl
theorem en53 : entB Tryd.prog 53 = true := by kernel_rfl
theorem en54 : entB Tryd.prog 54 = true := by kernel_rfl
theorem en55 : entB Tryd.prog 55 = true := by kernel_rfl
theorem en56 : entB Tryd.prog 56 = true := by kernel_rfl
theorem en57 : entB Tryd.prog 57 = true := by kernel_rfl
theorem en58 : entB Tryd.prog 58 = true := by kernel_rfl
theorem en59 : entB Tryd.prog 59 = true := by kernel_rfl
theorem en60 : entB Tryd.prog 60 = true := by kernel_rfl
theorem en61 : entB Tryd.prog 61 = true := by kernel_rfl
theorem en62 : entB Tryd.prog 62 = true := by kernel_rfl
theorem en63 : entB Tryd.prog 63 = true := by kernel_rfl
theorem en64 : entB Tryd.prog 64 = true := by kernel_rfl
theorem en65 : entB Tryd.prog 65 = true := by kernel_rfl
theorem en68 : entB Tryd.prog 68 = true := by kernel_rfl
theorem en71 : entB Tryd.prog 71 = true := by kernel_rfl
theorem en72 : entB Tryd.prog 72 = true := by kernel_rfl
theorem en78 : entB Tryd.prog 78 = true := by kernel_rfl
theorem en79 : entB Tryd.prog 79 = true := by kernel_rfl
theorem en80 : entB Tryd.prog 80 = true := by kernel_rfl
theorem en81 : entB Tryd.prog 81 = true := by kernel_rfl
theorem en82 : entB Tryd.prog 82 = true := by kernel_rfl
theorem en83 : entB Tryd.prog 83 = true := by kernel_rfl
theorem en92 : entB Tryd.prog 92 = true := by kernel_rfl
theorem fd39_0 : fieldB Tryd.prog 39 0 0 = true := by kernel_rfl
theorem fd39_1 : fieldB Tryd.prog 39 1 1 = true := by kernel_rfl
theorem fd39_2 : fieldB Tryd.prog 39 2 2 = true := by kernel_rfl
theorem fd39_3 : fieldB Tryd.prog 39 3 3 = true := by kernel_rfl
theorem fd48_0 : fieldB Tryd.prog 48 0 0 = true := by kernel_rfl
theorem fd48_1 : fieldB Tryd.prog 48 1 1 = true := by kernel_rfl
theorem fd48_2 : fieldB Tryd.prog 48 2 2 = true := by kernel_rfl
theorem fd48_3 : fieldB Tryd.prog 48 3 3 = true := by kernel_rfl
theorem fd48_4 : fieldB Tryd.prog 48 4 4 = true := by kernel_rfl
theorem fd54_0 : fieldB Tryd.prog 54 0 0 = true := by kernel_rfl
theorem fd54_1 : fieldB Tryd.prog 54 1 1 = true := by kernel_rfl
theorem fd54_2 : fieldB Tryd.prog 54 2 2 = true := by kernel_rfl
theorem fd54_3 : fieldB Tryd.prog 54 3 3 = true := by kernel_rfl
theorem fd58_0 : fieldB Tryd.prog 58 0 0 = true := by kernel_rfl
theorem fd58_1 : fieldB Tryd.prog 58 1 1 = true := by kernel_rfl
theorem fd58_2 : fieldB Tryd.prog 58 2 2 = true := by kernel_rfl
theorem fd58_3 : fieldB Tryd.prog 58 3 3 = true := by kernel_rfl
theorem fd58_4 : fieldB Tryd.prog 58 4 4 = true := by kernel_rfl
theorem fd58_5 : fieldB Tryd.prog 58 5 5 = true := by kernel_rfl
theorem fd58_6 : fieldB Tryd.prog 58 6 6 = true := by kernel_rfl
theorem fd62_0 : fieldB Tryd.prog 62 0 0 = true := by kernel_rfl
theorem fd62_1 : fieldB Tryd.prog 62 1 1 = true := by kernel_rfl
theorem fd62_2 : fieldB Tryd.prog 62 2 2 = true := by kernel_rfl
theorem fd68_0 : fieldB Tryd.prog 68 0 0 = true := by kernel_rfl
theorem fd68_1 : fieldB Tryd.prog 68 1 1 = true := by kernel_rfl
theorem fd68_2 : fieldB Tryd.prog 68 2 2 = true := by kernel_rfl
theorem fd68_3 : fieldB Tryd.prog 68 3 3 = true := by kernel_rfl
theorem fd68_4 : fieldB Tryd.prog 68 4 4 = true := by kernel_rfl
theorem fd68_5 : fieldB Tryd.prog 68 5 5 = true := by kernel_rfl
theorem fd68_6 : fieldB Tryd.prog 68 6 6 = true := by kernel_rfl
theorem fd75_0 : fieldB Tryd.prog 75 0 0 = true := by kernel_rfl
theorem fd75_1 : fieldB Tryd.prog 75 1 1 = true := by kernel_rfl
theorem sz3 : szB Tryd.prog 3 1 = true := by kernel_rfl
theorem sz4 : szB Tryd.prog 4 1 = true := by kernel_rfl
theorem sz9 : szB Tryd.prog 9 1 = true := by kernel_rfl
theorem sz30 : szB Tryd.prog 30 1 = true := by kernel_rfl
theorem sz39 : szB Tryd.prog 39 4 = true := by kernel_rfl
theorem sz46 : szB Tryd.prog 46 1 = true := by kernel_rfl
theorem sz52 : szB Tryd.prog 52 1 = true := by kernel_rfl
theorem sz62 : szB Tryd.prog 62 3 = true := by kernel_rfl
theorem sz75 : szB Tryd.prog 75 2 = true := by kernel_rfl
theorem sz110 : szB Tryd.prog 110 256 = true := by kernel_rfl
theorem ze39 : zeroB Tryd.prog 39 = some [.int .i64 0, .int .i64 0, .string ⟨#[]⟩, .slice none 0 0] := by kernel_rfl
theorem ze62 : zeroB Tryd.prog 62 = some [.int .i64 0, .string ⟨#[]⟩, .int .i64 0] := by kernel_rfl
theorem ze75 : zeroB Tryd.prog 75 = some [.int .i64 0, .string ⟨#[]⟩] := by kernel_rfl
theorem ze110 : zeroB Tryd.prog 110 = some (List.replicate 256 (.bool false)) := by kernel_rfl
theorem plain_Twrite (l : List Twrite) : Plain (l.map Twrite.row) := by
  intro r hr u hu
  obtain ⟨x, _, rfl⟩ := List.mem_map.1 hr
  simp only [Twrite.row, List.mem_cons, List.not_mem_nil, or_false] at hu
  rcases hu with rfl | rfl <;> rfl
theorem plain_Trecord (l : List Trecord) : Plain (l.map Trecord.row) := by
  intro r hr u hu
  obtain ⟨x, _, rfl⟩ := List.mem_map.1 hr
  simp only [Trecord.row, List.mem_cons, List.not_mem_nil, or_false] at hu
  rcases hu with rfl | rfl | rfl <;> rfl
set_option maxRecDepth 100000 in
set_option maxHeartbeats 8000000 in
theorem w23_quirref_blank (a0 : Int) (w : World) (r : (List UInt8)) (h : m23_quirref_blank a0 = some r) : Does Tryd.prog 23 [.int .i64 a0] w fun u m => u = st r ∧ m = [] := by
  rw [m23_quirref_blank] at h
  refine body (n := 5) Tryd.func23 rfl rfl rfl (Cls.refl w) ?_
  refine W.seq (W.region (L.y rfl (Y.assign rfl) ?_))
  refine L.nil (E.thenN (W.seq (W.region (L.y rfl (Y.move rfl) ?_))))
  obtain ⟨s1, e2, h⟩ := bind1S h
  refine L.y rfl (Y.does en22 rfl (fun w' hw => (wRepeat ([0]) a0 w' _ e2).mono (fun _ _ h => h.1))) ?_
  refine L.y rfl (Y.assign rfl) ?_
  refine L.nil (E.thenN (W.ret (E.ret1 rfl rfl (fun w1 hw => ?_))))
  obtain rfl := Option.some.inj h
  exact ⟨_, _, rfl, ⟨rfl, rfl⟩, hw⟩
set_option maxRecDepth 100000 in
set_option maxHeartbeats 8000000 in
theorem w21_sect_Disk_Read (a0_safe : (List (List UInt8))) (a0_seen : (List (List UInt8))) (a0_late : (List Twrite)) (a0_left : Int) (a1 : Int) (pb0 : Nat) (p0_safe : Value) (p0_seen : Value) (p0_late : Value) (w : World) (r : ((List UInt8) × Int)) (h : m21_sect_Disk_Read a0_safe a0_seen a0_late a0_left a1 = some r) (F : List Nat) (hc0 : Cls w F [.obj pb0 [p0_safe, p0_seen, p0_late, .int .i64 a0_left] 54, .sl p0_safe 9 1 (a0_safe.map SR), .sl p0_seen 9 1 (a0_seen.map SR), .sl p0_late 75 2 (a0_late.map Twrite.row)] w) : DoesF Tryd.prog 21 [pt pb0 0, .int .i64 a1] F w fun u m => u = .tuple #[st r.1, .int .i64 r.2] ∧ m = [.obj pb0 [p0_safe, p0_seen, p0_late, .int .i64 a0_left] 54, .sl p0_safe 9 1 (a0_safe.map SR), .sl p0_seen 9 1 (a0_seen.map SR), .sl p0_late 75 2 (a0_late.map Twrite.row)] := by
  rw [m21_sect_Disk_Read] at h
  refine body (n := 29) Tryd.func21 rfl rfl rfl hc0 ?_
  refine W.seq (W.region (L.y rfl (Y.assign rfl) ?_))
  refine L.y rfl (Y.assign rfl) ?_
  refine L.nil (E.thenN (W.seqJ (fun gs D => gs = [(0, pt pb0 0), (1, .int .i64 a1)] ∧ D = Cls w F [.obj pb0 [p0_safe, p0_seen, p0_late, .int .i64 a0_left] 54, .sl p0_safe 9 1 (a0_safe.map SR), .sl p0_seen 9 1 (a0_seen.map SR), .sl p0_late 75 2 (a0_late.map Twrite.row)] ∧ m21_sect_Disk_Read_K1 a0_left a0_seen a1 = some r) ?_ ?_))
  ·
   refine W.seq (W.region (L.y rfl (Y.move rfl) ?_))
   refine L.ite h rfl (Y.lss rfl rfl) (fun c3 h => ?_) (fun c3 h => ?_)
   ·
    refine L.y rfl (Y.move rfl) ?_
    refine L.pass rfl rfl (by nofun) ?_
    refine L.pass rfl rfl (by nofun) ?_
    refine L.pass rfl rfl (by nofun) ?_
    refine L.pass rfl rfl (by nofun) ?_
    refine L.pass rfl rfl (by nofun) ?_
    refine L.pass rfl rfl (by nofun) ?_
    refine L.pass rfl rfl (by nofun) ?_
    refine L.y rfl (Y.pickT rfl rfl) ?_
    refine L.nil (E.thenN (W.condT rfl ?_))
    refine W.seq (W.region (L.y rfl (Y.assign rfl) ?_))
    refine L.y rfl (Y.assign rfl) ?_
    refine L.nil (E.thenN (W.ret (E.KSR (E.ret2 rfl rfl rfl (fun w1 hw => ?_)))))
    obtain rfl := Option.some.inj h
    exact ⟨_, _, rfl, ⟨rfl, rfl⟩, hw⟩
   ·
    refine L.y rfl (Y.move rfl) ?_
    refine L.take rfl (L.y rfl (Y.move rfl) ?_)
    refine L.take rfl (L.y rfl (Y.move rfl) ?_)
    refine L.take rfl (L.y rfl (Y.nilCheck rfl) ?_)
    refine L.take rfl (L.y rfl (Y.fieldP fd54_0 rfl) ?_)
    refine L.take rfl (L.y rfl (Y.loadP (i := 0) ag30 rfl rfl rfl) ?_)
    refine L.take rfl (L.y rfl (Y.lenM (g := SR) (l := a0_safe) Tryd.underlying30 rfl (fun w hw => As.at_ (hw.get (i := 1) rfl))) ?_)
    refine L.take rfl (L.ite h rfl (Y.geq rfl rfl) (fun c4 h => ?_) (fun c4 h => ?_))
    ·
     refine L.y rfl (Y.pickF rfl rfl) ?_
     refine L.nil (E.thenN (W.condT rfl ?_))
     refine W.seq (W.region (L.y rfl (Y.assign rfl) ?_))
     refine L.y rfl (Y.assign rfl) ?_
     refine L.nil (E.thenN (W.ret (E.KSR (E.ret2 rfl rfl rfl (fun w1 hw => ?_)))))
     obtain rfl := Option.some.inj h
     exact ⟨_, _, rfl, ⟨rfl, rfl⟩, hw⟩
    ·
     refine L.y rfl (Y.pickF rfl rfl) ?_
     refine L.nil (E.thenN (W.condF rfl ?_))
     exact W.skip (E.joinJ ⟨rfl, rfl, h⟩ ⟨rfl, rfl, trivial⟩ (fun _ hw => hw))
  ·
   rintro _ _ ⟨rfl, rfl, h⟩
   rw [m21_sect_Disk_Read_K1] at h
   refine W.seq (W.seq (W.region (L.y rfl (Y.move rfl) ?_)))
   refine L.y rfl (Y.nilCheck rfl) ?_
   refine L.y rfl (Y.fieldP fd54_3 rfl) ?_
   refine L.y rfl (Y.loadP (i := 0) ag3 rfl rfl rfl) ?_
   refine L.ite h rfl (Y.eql rfl rfl) (fun c1 h => ?_) (fun c1 h => ?_)
   ·
    refine L.nil (E.thenN (W.condT rfl ?_))
    refine W.seq (W.region (L.y rfl (Y.assign rfl) ?_))
    refine L.y rfl (Y.assign rfl) ?_
    refine L.nil (E.thenN (W.ret (E.thenR (E.ret2 rfl rfl rfl (fun w1 hw => ?_)))))
    obtain rfl := Option.some.inj h
    exact ⟨_, _, rfl, ⟨rfl, rfl⟩, hw⟩
   ·
    refine L.nil (E.thenN (W.condF rfl ?_))
    refine W.skip (E.thenN (W.seq (W.region (L.y rfl (Y.move rfl) ?_))))
    refine L.y rfl (Y.nilCheck rfl) ?_
    refine L.y rfl (Y.fieldP fd54_1 rfl) ?_
    refine L.y rfl (Y.loadP (i := 0) ag30 rfl rfl rfl) ?_
    refine L.y rfl (Y.move rfl) ?_
    refine L.m (V := fun _ => el p0_seen (a1.toNat * 1)) h rfl (Y.indexM (g := SR) (l := a0_seen) Tryd.underlying30 sz9 rfl rfl (fun w hw => As.at_ (hw.get (i := 2) rfl))) (fun x2 ex2 h => ?_)
    refine L.y rfl (Y.loadE1 (u := st x2) ag9 rfl (fun w hw => As.at_ (hw.get (i := 2) rfl)) (idx_map ex2)) ?_
    refine L.y rfl (Y.assign rfl) ?_
    refine L.y rfl (Y.assign rfl) ?_
    refine L.nil (E.thenN (W.ret (E.ret2 rfl rfl rfl (fun w1 hw => ?_))))
    obtain rfl := Option.some.inj h
    exact ⟨_, _, rfl, ⟨rfl, rfl⟩, hw⟩
set_option maxRecDepth 100000 in
set_option maxHeartbeats 8000000 in
theorem w72_strings_trimRightByte (a0 : (List UInt8)) (a1 : Int) (w : World) (r : (List UInt8)) (h : m72_strings_trimRightByte a0 a1 = some r) : Does Tryd.prog 72 [st a0, .int .u8 a1] w fun u m => u = st r ∧ m = [] := by
  rw [m72_strings_trimRightByte] at h
  refine body (n := 23) Tryd.func72 rfl rfl rfl (Cls.refl w) ?_
  refine W.seq (W.region (L.y rfl (Y.assign rfl) ?_))
  refine L.nil (E.thenN (W.seqJ (fun gs D => ∃ (gs1 : (List UInt8)), gs = [(0, st gs1)] ∧ D = Cls w [] [] ∧ m72_strings_trimRightByte_K1 gs1 = some r) ?_ ?_))
  ·
   refine W.block (W.loopJ (fun m gs D => ∃ (gs2 : (List UInt8)), gs = [(0, st gs2), (1, .int .u8 a1)] ∧ D = Cls w [] [] ∧ m72_strings_trimRightByte_L1 a1 m gs2 = some r) ⟨a0, rfl, rfl, h⟩ ⟨rfl, rfl, trivial⟩ (fun _ hw => hw) ?_)
   rintro m _ _ ⟨gs2, rfl, rfl, h⟩
   rcases m with _ | m
   · rw [m72_strings_trimRightByte_L1] at h; cases h
   rw [m72_strings_trimRightByte_L1] at h
   generalize hg1 : m72_strings_trimRightByte_L1 a1 m = go1 at h
   rw [m72_strings_trimRightByte_L1B] at h
   refine W.seq (W.seq (W.region (L.y rfl (Y.move rfl) ?_)))
   refine L.y rfl (Y.lenS Tryd.underlying9 rfl) ?_
   refine L.ite h rfl (Y.gtr rfl rfl) (fun c1 h => ?_) (fun c1 h => ?_)
   ·
    refine L.y rfl (Y.move rfl) ?_
    refine L.take rfl (L.y rfl (Y.move rfl) ?_)
    refine L.take rfl (L.y rfl (Y.move rfl) ?_)
    refine L.take rfl (L.y rfl (Y.lenS Tryd.underlying9 rfl) ?_)
    refine L.take rfl (L.m (V := fun x2 => .int .i64 x2) h rfl (Y.subM rfl rfl) (fun x2 ex2 h => ?_))
    refine L.take rfl (L.m (V := fun x3 => .int .u8 x3) h rfl (Y.indexSM Tryd.underlying9 rfl rfl) (fun x3 ex3 h => ?_))
    refine L.take rfl (L.y rfl (Y.move rfl) ?_)
    refine L.take rfl (L.ite h rfl (Y.eql rfl rfl) (fun c4 h => ?_) (fun c4 h => ?_))
    ·
     refine L.y rfl (Y.pickT rfl rfl) ?_
     refine L.nil (E.thenN (W.condT rfl ?_))
     refine W.skip (E.thenN (W.block (W.region (L.y rfl (Y.move rfl) ?_))))
     refine L.y rfl (Y.move rfl) ?_
     refine L.y rfl (Y.lenS Tryd.underlying9 rfl) ?_
     refine L.m (V := fun x5 => .int .i64 x5) h rfl (Y.subM rfl rfl) (fun x5 ex5 h => ?_)
     refine L.m (V := fun s6 => st s6) h rfl (Y.sliceSH Tryd.underlying9 rfl rfl) (fun s6 es6 h => ?_)
     refine L.y rfl (Y.assign rfl) ?_
     exact L.nil (E.blockN (E.againJ ⟨s6, rfl, rfl, by rw [hg1]; exact h⟩ (Nat.lt_succ_self _) ⟨rfl, rfl, trivial⟩ (fun _ hw => hw)))
    ·
     refine L.y rfl (Y.pickT rfl rfl) ?_
     refine L.nil (E.thenN (W.condF rfl ?_))
     exact W.exit (E.thenX (E.KLX (E.blockX (E.joinJ ⟨gs2, rfl, rfl, h⟩ ⟨rfl, trivial⟩ (fun _ hw => hw)))))
   ·
    refine L.y rfl (Y.move rfl) ?_
    refine L.pass rfl rfl (by nofun) ?_
    refine L.pass rfl rfl (by nofun) ?_
    refine L.pass rfl rfl (by nofun) ?_
    refine L.pass rfl rfl (by nofun) ?_
    refine L.pass rfl rfl (by nofun) ?_
    refine L.pass rfl rfl (by nofun) ?_
    refine L.pass rfl rfl (by nofun) ?_
    refine L.y rfl (Y.pickF rfl rfl) ?_
    refine L.nil (E.thenN (W.condF rfl ?_))
    exact W.exit (E.thenX (E.KLX (E.blockX (E.joinJ ⟨gs2, rfl, rfl, h⟩ ⟨rfl, trivial⟩ (fun _ hw => hw)))))
  ·
   rintro _ _ ⟨gs1, rfl, rfl, h⟩
   rw [m72_strings_trimRightByte_K1] at h
   refine W.seq (W.region (L.y rfl (Y.move rfl) ?_))
   refine L.y rfl (Y.assign rfl) ?_
   refine L.nil (E.thenN (W.ret (E.ret1 rfl rfl (fun w1 hw => ?_))))
   obtain rfl := Option.some.inj h
   exact ⟨_, _, rfl, ⟨rfl, rfl⟩, hw⟩
set_option maxRecDepth 100000 in
set_option maxHeartbeats 8000000 in
theorem w71_strings_trimLeftByte (a0 : (List UInt8)) (a1 : Int) (w : World) (r : (List UInt8)) (h : m71_strings_trimLeftByte a0 a1 = some r) : Does Tryd.prog 71 [st a0, .int .u8 a1] w fun u m => u = st r ∧ m = [] := by
  rw [m71_strings_trimLeftByte] at h
  refine body (n := 17) Tryd.func71 rfl rfl rfl (Cls.refl w) ?_
  refine W.seq (W.region (L.y rfl (Y.assign rfl) ?_))
  refine L.nil (E.thenN (W.seqJ (fun gs D => ∃ (gs1 : (List UInt8)), gs = [(0, st gs1)] ∧ D = Cls w [] [] ∧ m71_strings_trimLeftByte_K1 gs1 = some r) ?_ ?_))
  ·
   refine W.block (W.loopJ (fun m gs D => ∃ (gs2 : (List UInt8)), gs = [(0, st gs2), (1, .int .u8 a1)] ∧ D = Cls w [] [] ∧ m71_strings_trimLeftByte_L1 a1 m gs2 = some r) ⟨a0, rfl, rfl, h⟩ ⟨rfl, rfl, trivial⟩ (fun _ hw => hw) ?_)
   rintro m _ _ ⟨gs2, rfl, rfl, h⟩
   rcases m with _ | m
   · rw [m71_strings_trimLeftByte_L1] at h; cases h
   rw [m71_strings_trimLeftByte_L1] at h
   generalize hg1 : m71_strings_trimLeftByte_L1 a1 m = go1 at h
   rw [m71_strings_trimLeftByte_L1B] at h
   refine W.seq (W.seq (W.region (L.y rfl (Y.move rfl) ?_)))
   refine L.y rfl (Y.lenS Tryd.underlying9 rfl) ?_
   refine L.ite h rfl (Y.gtr rfl rfl) (fun c1 h => ?_) (fun c1 h => ?_)
   ·
    refine L.y rfl (Y.move rfl) ?_
    refine L.take rfl (L.y rfl (Y.move rfl) ?_)
    refine L.take rfl (L.m (V := fun x2 => .int .u8 x2) h rfl (Y.indexSM Tryd.underlying9 rfl rfl) (fun x2 ex2 h => ?_))
    refine L.take rfl (L.y rfl (Y.move rfl) ?_)
    refine L.take rfl (L.ite h rfl (Y.eql rfl rfl) (fun c3 h => ?_) (fun c3 h => ?_))
    ·
     refine L.y rfl (Y.pickT rfl rfl) ?_
     refine L.nil (E.thenN (W.condT rfl ?_))
     refine W.skip (E.thenN (W.block (W.region (L.y rfl (Y.move rfl) ?_))))
     refine L.m (V := fun s4 => st s4) h rfl (Y.sliceSL Tryd.underlying9 rfl rfl) (fun s4 es4 h => ?_)
     refine L.y rfl (Y.assign rfl) ?_
     exact L.nil (E.blockN (E.againJ ⟨s4, rfl, rfl, by rw [hg1]; exact h⟩ (Nat.lt_succ_self _) ⟨rfl, rfl, trivial⟩ (fun _ hw => hw)))
    ·
     refine L.y rfl (Y.pickT rfl rfl) ?_
     refine L.nil (E.thenN (W.condF rfl ?_))
     exact W.exit (E.thenX (E.KLX (E.blockX (E.joinJ ⟨gs2, rfl, rfl, h⟩ ⟨rfl, trivial⟩ (fun _ hw => hw)))))
   ·
    refine L.y rfl (Y.move rfl) ?_
    refine L.pass rfl rfl (by nofun) ?_
    refine L.pass rfl rfl (by nofun) ?_
    refine L.pass rfl rfl (by nofun) ?_
    refine L.pass rfl rfl (by nofun) ?_
    refine L.y rfl (Y.pickF rfl rfl) ?_
    refine L.nil (E.thenN (W.condF rfl ?_))
    exact W.exit (E.thenX (E.KLX (E.blockX (E.joinJ ⟨gs2, rfl, rfl, h⟩ ⟨rfl, trivial⟩ (fun _ hw => hw)))))
  ·
   rintro _ _ ⟨gs1, rfl, rfl, h⟩
   rw [m71_strings_trimLeftByte_K1] at h
   refine W.seq (W.region (L.y rfl (Y.move rfl) ?_))
   refine L.y rfl (Y.assign rfl) ?_
   refine L.nil (E.thenN (W.ret (E.ret1 rfl rfl (fun w1 hw => ?_))))
   obtain rfl := Option.some.inj h
   exact ⟨_, _, rfl, ⟨rfl, rfl⟩, hw⟩
set_option maxRecDepth 100000 in
set_option maxHeartbeats 8000000 in
theorem w73_strings_makeASCIISet (a0 : (List UInt8)) (w : World) (r : ((List Bool) × Bool)) (h : m73_strings_makeASCIISet a0 = some r) : Does Tryd.prog 73 [st a0] w fun u m => u = .tuple #[.agg (r.1.map B).flatten.toArray, .bool r.2] ∧ m = [] := by
  rw [m73_strings_makeASCIISet] at h
  refine body (n := 21) Tryd.func73 rfl rfl rfl (Cls.refl w) ?_
  refine W.seq (W.region (L.alloc rfl ze110 ?_))
  intro b1
  refine L.to (D := Cls w [] [.obj b1 (((List.replicate 256 (false : Bool)).map B).flatten) 110]) (fun _ hw => by first | exact hw | simpa [I, B, SR] using hw) ?_
  refine L.y rfl (Y.assign rfl) ?_
  refine L.nil (E.thenN (W.seqJ (fun gs D => ∃ (gl1 : (List Bool)), gs = [(2, pt b1 0)] ∧ D = Cls w [] [.obj b1 ((gl1.map B).flatten) 110] ∧ m73_strings_makeASCIISet_K1 gl1 = some r) ?_ ?_))
  ·
   refine W.seq (W.region (L.y rfl (Y.assign rfl) ?_))
   refine L.nil (E.thenN (W.block (W.loopJ (fun m gs D => ∃ (gx2 : Int) (gl3 : (List Bool)), gs = [(0, st a0), (2, pt b1 0), (4, .int .i64 gx2)] ∧ D = Cls w [] [.obj b1 ((gl3.map B).flatten) 110] ∧ m73_strings_makeASCIISet_L1 a0 m gx2 gl3 = some r) ⟨0, (List.replicate 256 (false : Bool)), rfl, rfl, h⟩ ⟨rfl, rfl, rfl, trivial⟩ (fun _ hw => hw) ?_)))
   rintro m _ _ ⟨gx2, gl3, rfl, rfl, h⟩
   rcases m with _ | m
   · rw [m73_strings_makeASCIISet_L1] at h; cases h
   rw [m73_strings_makeASCIISet_L1] at h
   generalize hg1 : m73_strings_makeASCIISet_L1 a0 m = go1 at h
   rw [m73_strings_makeASCIISet_L1B] at h
   refine W.seqJ (fun gs D => gs = [(0, st a0), (2, pt b1 0), (4, .int .i64 gx2)] ∧ D = Cls w [] [.obj b1 ((gl3.map B).flatten) 110] ∧ m73_strings_makeASCIISet_K2 a0 gx2 gl3 go1 = some r) ?_ ?_
   ·
    refine W.seq (W.region (L.y rfl (Y.move rfl) ?_))
    refine L.y rfl (Y.move rfl) ?_
    refine L.y rfl (Y.lenS Tryd.underlying9 rfl) ?_
    refine L.ite h rfl (Y.lss rfl rfl) (fun c15 h => ?_) (fun c15 h => ?_)
    ·
     refine L.nil (E.thenN (W.condT rfl ?_))
     exact W.skip (E.joinJ ⟨rfl, rfl, h⟩ ⟨rfl, rfl, rfl, trivial⟩ (fun _ hw => hw))
    ·
     refine L.nil (E.thenN (W.condF rfl ?_))
     exact W.exit (E.KSX (E.KLX (E.blockX (E.joinJ ⟨gl3, rfl, rfl, h⟩ ⟨rfl, trivial⟩ (fun _ hw => hw)))))
   ·
    rintro _ _ ⟨rfl, rfl, h⟩
    rw [m73_strings_makeASCIISet_K2] at h
    refine W.seq (W.block (W.seq (W.region (L.y rfl (Y.move rfl) ?_))))
    refine L.y rfl (Y.move rfl) ?_
    refine L.m (V := fun x6 => .int .u8 x6) h rfl (Y.indexSM Tryd.underlying9 rfl rfl) (fun x6 ex6 h => ?_)
    refine L.y rfl (Y.assign rfl) ?_
    refine L.nil (E.thenN (W.seq (W.seq (W.region (L.y rfl (Y.move rfl) ?_)))))
    refine L.ite h rfl (Y.geq rfl rfl) (fun c7 h => ?_) (fun c7 h => ?_)
    ·
     refine L.nil (E.thenN (W.condT rfl ?_))
     refine W.seq (W.region ?_)
     obtain ⟨_, en8, h⟩ := bind1S h
     obtain ⟨_, en8⟩ := arrN_some en8
     refine L.y rfl (Y.loadArAll (q := 0) (row := B) (k := 1) ag110 sz110 rfl rfl (fun _ => rfl) (by rw [en8])) ?_
     obtain ⟨_, en9, h⟩ := bind1S h
     obtain ⟨_, en9⟩ := arrN_some en9
     obtain ⟨_, en10, h⟩ := bind1S h
     obtain ⟨_, en10⟩ := arrN_some en10
     refine L.storeArW (i := 0) (row := B) (k := 1) en9 en10 rfl (fun _ => rfl) (plain_bools _) sz110 rfl rfl rfl ?_
     refine L.y rfl (Y.assign rfl) ?_
     refine L.nil (E.thenN (W.ret (E.thenR (E.blockR (E.thenR (E.KLR (E.blockR (E.KSR ?_))))))))
     obtain ⟨_, en11, h⟩ := bind1S h
     obtain ⟨_, en11⟩ := arrN_some en11
     refine E.retR2 rfl (Rv.cellAr (i := 0) (row := B) (k := 1) ag110 sz110 rfl rfl (fun _ => rfl) (by rw [en11])) (Rv.tmp rfl) (fun w1 hw => ?_)
     obtain rfl := Option.some.inj h
     exact ⟨_, _, rfl, ⟨rfl, rfl⟩, hw.sel [] (by decide) rfl⟩
    ·
     refine L.nil (E.thenN (W.condF rfl ?_))
     refine W.skip (E.thenN (W.region (L.y rfl (Y.move rfl) ?_)))
     refine L.m (V := fun _ => pt b1 (0 + x6.toNat * 1)) h rfl (Y.indexAM (l := gl3) Tryd.underlying110 sz4 rfl rfl) (fun x12 ex12 h => ?_)
     refine L.storeArM (q := 0) (row := B) (vs := [.bool true]) (j := 0) (u1 := true) h sz4 rfl rfl rfl rfl rfl (all1 rfl all0) rfl (fun _ => rfl) (idxA_idx ex12) rfl rfl ?_
     intro l13 el13 h
     refine L.nil (E.blockN (E.thenN (W.region (L.y rfl (Y.move rfl) ?_))))
     refine L.m (V := fun x14 => .int .i64 x14) h rfl (Y.addM rfl rfl) (fun x14 ex14 h => ?_)
     refine L.y rfl (Y.assign rfl) ?_
     exact L.nil (E.againJ ⟨x14, l13, rfl, rfl, by rw [hg1]; exact h⟩ (Nat.lt_succ_self _) ⟨rfl, rfl, rfl, trivial⟩ (fun _ hw => hw))
  ·
   rintro _ _ ⟨gl1, rfl, rfl, h⟩
   rw [m73_strings_makeASCIISet_K1] at h
   refine W.seq (W.region ?_)
   obtain ⟨_, en2, h⟩ := bind1S h
   obtain ⟨_, en2⟩ := arrN_some en2
   refine L.y rfl (Y.loadArAll (q := 0) (row := B) (k := 1) ag110 sz110 rfl rfl (fun _ => rfl) (by rw [en2])) ?_
   obtain ⟨_, en3, h⟩ := bind1S h
   obtain ⟨_, en3⟩ := arrN_some en3
   obtain ⟨_, en4, h⟩ := bind1S h
   obtain ⟨_, en4⟩ := arrN_some en4
   refine L.storeArW (i := 0) (row := B) (k := 1) en3 en4 rfl (fun _ => rfl) (plain_bools _) sz110 rfl rfl rfl ?_
   refine L.y rfl (Y.assign rfl) ?_
   refine L.nil (E.thenN (W.ret ?_))
   obtain ⟨_, en5, h⟩ := bind1S h
   obtain ⟨_, en5⟩ := arrN_some en5
   refine E.retR2 rfl (Rv.cellAr (i := 0) (row := B) (k := 1) ag110 sz110 rfl rfl (fun _ => rfl) (by rw [en5])) (Rv.tmp rfl) (fun w1 hw => ?_)
   obtain rfl := Option.some.inj h
   exact ⟨_, _, rfl, ⟨rfl, rfl⟩, hw.sel [] (by decide) rfl⟩
set_option maxRecDepth 100000 in
set_option maxHeartbeats 8000000 in
theorem w92_utf8_RuneStart (a0 : Int) (w : World) (r : Bool) (h : m92_utf8_RuneStart a0 = some r) : Does Tryd.prog 92 [.int .u8 a0] w fun u m => u = .bool r ∧ m = [] := by
  rw [m92_utf8_RuneStart] at h
  refine body (n := 6) Tryd.func92 rfl rfl rfl (Cls.refl w) ?_
  refine W.seq (W.region (L.y rfl (Y.assign rfl) ?_))
  refine L.nil (E.thenN (W.seq (W.region (L.y rfl (Y.move rfl) ?_))))
  refine L.y rfl (Y.and rfl rfl) ?_
  refine L.y rfl (Y.neq rfl rfl) ?_
  refine L.y rfl (Y.assign rfl) ?_
  refine L.nil (E.thenN (W.ret (E.ret1 rfl rfl (fun w1 hw => ?_))))
  obtain rfl := Option.some.inj h
  exact ⟨_, _, rfl, ⟨rfl, rfl⟩, hw⟩
set_option maxRecDepth 100000 in
set_option maxHeartbeats 8000000 in
theorem w94_utf8_ValidRune (a0 : Int) (w : World) (r : Bool) (h : m94_utf8_ValidRune a0 = some r) : Does Tryd.prog 94 [.int .i32 a0] w fun u m => u = .bool r ∧ m = [] := by
  rw [m94_utf8_ValidRune] at h
  refine body (n := 17) Tryd.func94 rfl rfl rfl (Cls.refl w) ?_
  refine W.seq (W.region (L.y rfl (Y.assign rfl) ?_))
  refine L.nil (E.thenN (W.seq (W.block (W.seq (W.region (L.cutJ 6 (fun gs D => ∃ (gb1 : Bool), gs = [(0, .int .i32 a0), (9, .bool gb1)] ∧ D = Cls w [] [] ∧ m94_utf8_ValidRune_K1 a0 gb1 = some r) ?_ ?_))))))
  ·
   refine L.y rfl (Y.move rfl) ?_
   refine L.ite h rfl (Y.leq rfl rfl) (fun c3 h => ?_) (fun c3 h => ?_)
   ·
    refine L.y rfl (Y.move rfl) ?_
    refine L.take rfl (L.y rfl (Y.move rfl) ?_)
    refine L.take rfl (L.ite h rfl (Y.lss rfl rfl) (fun c4 h => ?_) (fun c4 h => ?_))
    ·
     refine L.y rfl (Y.pickT rfl rfl) ?_
     exact L.nil (E.joinJ ⟨true, rfl, rfl, h⟩ ⟨rfl, rfl, trivial⟩ (fun _ hw => hw))
    ·
     refine L.y rfl (Y.pickT rfl rfl) ?_
     exact L.nil (E.joinJ ⟨false, rfl, rfl, h⟩ ⟨rfl, rfl, trivial⟩ (fun _ hw => hw))
   ·
    refine L.y rfl (Y.move rfl) ?_
    refine L.pass rfl rfl (by nofun) ?_
    refine L.pass rfl rfl (by nofun) ?_
    refine L.y rfl (Y.pickF rfl rfl) ?_
    exact L.nil (E.joinJ ⟨false, rfl, rfl, h⟩ ⟨rfl, rfl, trivial⟩ (fun _ hw => hw))
  ·
   rintro _ _ ⟨gb1, rfl, rfl, h⟩
   rw [m94_utf8_ValidRune_K1] at h
   rcases gb1 with _ | _
   ·
    replace h := iteF h
    refine L.y rfl (Y.assign rfl) ?_
    refine L.nil (E.thenN (W.condF rfl ?_))
    refine W.seq (W.region (L.cutJ 6 (fun gs D => ∃ (gb2 : Bool), gs = [(16, .bool gb2)] ∧ D = Cls w [] [] ∧ m94_utf8_ValidRune_K2 gb2 = some r) ?_ ?_))
    ·
     refine L.y rfl (Y.move rfl) ?_
     refine L.ite h rfl (Y.lss rfl rfl) (fun c1 h => ?_) (fun c1 h => ?_)
     ·
      refine L.y rfl (Y.move rfl) ?_
      refine L.take rfl (L.y rfl (Y.move rfl) ?_)
      refine L.take rfl (L.ite h rfl (Y.leq rfl rfl) (fun c2 h => ?_) (fun c2 h => ?_))
      ·
       refine L.y rfl (Y.pickT rfl rfl) ?_
       exact L.nil (E.joinJ ⟨true, rfl, rfl, h⟩ ⟨rfl, trivial⟩ (fun _ hw => hw))
      ·
       refine L.y rfl (Y.pickT rfl rfl) ?_
       exact L.nil (E.joinJ ⟨false, rfl, rfl, h⟩ ⟨rfl, trivial⟩ (fun _ hw => hw))
     ·
      refine L.y rfl (Y.move rfl) ?_
      refine L.pass rfl rfl (by nofun) ?_
      refine L.pass rfl rfl (by nofun) ?_
      refine L.y rfl (Y.pickF rfl rfl) ?_
      exact L.nil (E.joinJ ⟨false, rfl, rfl, h⟩ ⟨rfl, trivial⟩ (fun _ hw => hw))
    ·
     rintro _ _ ⟨gb2, rfl, rfl, h⟩
     rw [m94_utf8_ValidRune_K2] at h
     rcases gb2 with _ | _
     ·
      replace h := iteF h
      refine L.y rfl (Y.assign rfl) ?_
      refine L.nil (E.thenN (W.condF rfl ?_))
      refine W.skip (E.blockN (E.thenN (W.seq (W.region (L.y rfl (Y.assign rfl) ?_)))))
      refine L.nil (E.thenN (W.ret (E.ret1 rfl rfl (fun w1 hw => ?_))))
      obtain rfl := Option.some.inj h
      exact ⟨_, _, rfl, ⟨rfl, rfl⟩, hw⟩
     ·
      replace h := iteT h
      refine L.y rfl (Y.assign rfl) ?_
      refine L.nil (E.thenN (W.condT rfl ?_))
      refine W.seq (W.region (L.y rfl (Y.assign rfl) ?_))
      refine L.nil (E.thenN (W.ret (E.blockR (E.thenR (E.ret1 rfl rfl (fun w1 hw => ?_))))))
      obtain rfl := Option.some.inj h
      exact ⟨_, _, rfl, ⟨rfl, rfl⟩, hw⟩
   ·
    replace h := iteT h
    refine L.y rfl (Y.assign rfl) ?_
    refine L.nil (E.thenN (W.condT rfl ?_))
    refine W.seq (W.region (L.y rfl (Y.assign rfl) ?_))
    refine L.nil (E.thenN (W.ret (E.blockR (E.thenR (E.ret1 rfl rfl (fun w1 hw => ?_))))))
    obtain rfl := Option.some.inj h
    exact ⟨_, _, rfl, ⟨rfl, rfl⟩, hw⟩
set_option maxRecDepth 100000 in
set_option maxHeartbeats 8000000 in
theorem w95_bytealg_Cutover (a0 : Int) (w : World) (r : Int) (h : m95_bytealg_Cutover a0 = some r) : Does Tryd.prog 95 [.int .i64 a0] w fun u m => u = .int .i64 r ∧ m = [] := by
  rw [m95_bytealg_Cutover] at h
  refine body (n := 6) Tryd.func95 rfl rfl rfl (Cls.refl w) ?_
  refine W.seq (W.region (L.y rfl (Y.assign rfl) ?_))
  refine L.nil (E.thenN (W.seq (W.region (L.y rfl (Y.move rfl) ?_))))
  refine L.m (V := fun x1 => .int .i64 x1) h rfl (Y.addM rfl rfl) (fun x1 ex1 h => ?_)
  refine L.m (V := fun x2 => .int .i64 x2) h rfl (Y.quoM rfl rfl) (fun x2 ex2 h => ?_)
  refine L.y rfl (Y.assign rfl) ?_
  refine L.nil (E.thenN (W.ret (E.ret1 rfl rfl (fun w1 hw => ?_))))
  obtain rfl := Option.some.inj h
  exact ⟨_, _, rfl, ⟨rfl, rfl⟩, hw⟩
set_option maxRecDepth 100000 in
set_option maxHeartbeats 8000000 in
theorem w49_strings_Trim (a0 : (List UInt8)) (a1 : (List UInt8)) (w : World) (r : (List UInt8)) (h : m49_strings_Trim a0 a1 = some r) : Does Tryd.prog 49 [st a0, st a1] w fun u m => u = st r ∧ m = [] := by
  rw [m49_strings_Trim] at h
  refine body (n := 43) Tryd.func49 rfl rfl rfl (Cls.refl w) ?_
  refine W.seq (W.region (L.y rfl (Y.assign rfl) ?_))
  refine L.nil (E.thenN (W.seqJ (fun gs D => gs = [(0, st a0), (1, st a1)] ∧ D = Cls w [] [] ∧ m49_strings_Trim_K1 a1 a0 = some r) ?_ ?_))
  ·
   refine W.seq (W.region (L.y rfl (Y.move rfl) ?_))
   refine L.ite h rfl (Y.eqlS rfl rfl) (fun c10 h => ?_) (fun c10 h => ?_)
   ·
    refine L.y rfl (Y.move rfl) ?_
    refine L.pass rfl rfl (by nofun) ?_
    refine L.pass rfl rfl (by nofun) ?_
    refine L.y rfl (Y.pickT rfl rfl) ?_
    refine L.nil (E.thenN (W.condT rfl ?_))
    refine W.seq (W.region (L.y rfl (Y.move rfl) ?_))
    refine L.y rfl (Y.assign rfl) ?_
    refine L.nil (E.thenN (W.ret (E.KSR (E.ret1 rfl rfl (fun w1 hw => ?_)))))
    obtain rfl := Option.some.inj h
    exact ⟨_, _, rfl, ⟨rfl, rfl⟩, hw⟩
   ·
    refine L.y rfl (Y.move rfl) ?_
    refine L.take rfl (L.y rfl (Y.move rfl) ?_)
    refine L.take rfl (L.ite h rfl (Y.eqlS rfl rfl) (fun c11 h => ?_) (fun c11 h => ?_))
    ·
     refine L.y rfl (Y.pickF rfl rfl) ?_
     refine L.nil (E.thenN (W.condT rfl ?_))
     refine W.seq (W.region (L.y rfl (Y.move rfl) ?_))
     refine L.y rfl (Y.assign rfl) ?_
     refine L.nil (E.thenN (W.ret (E.KSR (E.ret1 rfl rfl (fun w1 hw => ?_)))))
     obtain rfl := Option.some.inj h
     exact ⟨_, _, rfl, ⟨rfl, rfl⟩, hw⟩
    ·
     refine L.y rfl (Y.pickF rfl rfl) ?_
     refine L.nil (E.thenN (W.condF rfl ?_))
     exact W.skip (E.joinJ ⟨rfl, rfl, h⟩ ⟨rfl, rfl, trivial⟩ (fun _ hw => hw))
  ·
   rintro _ _ ⟨rfl, rfl, h⟩
   rw [m49_strings_Trim_K1] at h
   refine W.seq (W.seq (W.region (L.y rfl (Y.move rfl) ?_)))
   refine L.y rfl (Y.lenS Tryd.underlying9 rfl) ?_
   refine L.ite h rfl (Y.eql rfl rfl) (fun c1 h => ?_) (fun c1 h => ?_)
   ·
    refine L.y rfl (Y.move rfl) ?_
    refine L.take rfl (L.y rfl (Y.move rfl) ?_)
    refine L.take rfl (L.m (V := fun x2 => .int .u8 x2) h rfl (Y.indexSM Tryd.underlying9 rfl rfl) (fun x2 ex2 h => ?_))
    refine L.take rfl (L.ite h rfl (Y.lss rfl rfl) (fun c3 h => ?_) (fun c3 h => ?_))
    ·
     refine L.y rfl (Y.pickT rfl rfl) ?_
     refine L.nil (E.thenN (W.condT rfl ?_))
     refine W.seq (W.quietC mixed (by kernel_rfl) (fun _ hw => hw.drew) (fun hC => ?_))
     refine U.y rfl (Y.move rfl) ?_
     refine U.y rfl (Y.move rfl) ?_
     refine U.m (V := fun x4 => .int .u8 x4) h rfl (Y.indexSM Tryd.underlying9 rfl rfl) (fun x4 ex4 h => ?_)
     obtain ⟨s5, e6, h⟩ := bind1S h
     refine U.y rfl (Y.does en72 rfl (fun w' hw => (w72_strings_trimRightByte a0 x4 w' _ e6).mono (fun _ _ h => h.1))) ?_
     refine U.y rfl (Y.move rfl) ?_
     refine U.m (V := fun x7 => .int .u8 x7) h rfl (Y.indexSM Tryd.underlying9 rfl rfl) (fun x7 ex7 h => ?_)
     obtain ⟨s8, e9, h⟩ := bind1S h
     refine U.y rfl (Y.does en71 rfl (fun w' hw => (w71_strings_trimLeftByte s5 x7 w' _ e9).mono (fun _ _ h => h.1))) ?_
     refine U.y rfl (Y.assign rfl) ?_
     refine U.nil (E.thenN (W.ret (E.thenR (E.ret1 rfl rfl (fun w1 hw => ?_)))))
     obtain rfl := Option.some.inj h
     exact ⟨_, _, rfl, ⟨rfl, rfl⟩, hw⟩
    ·
     refine L.y rfl (Y.pickT rfl rfl) ?_
     refine L.nil (E.thenN (W.condF rfl ?_))
     refine W.skip (E.thenN (W.seq (W.seq (W.region (L.y rfl (Y.move rfl) ?_)))))
     cases h
   ·
    refine L.y rfl (Y.move rfl) ?_
    refine L.pass rfl rfl (by nofun) ?_
    refine L.pass rfl rfl (by nofun) ?_
    refine L.pass rfl rfl (by nofun) ?_
    refine L.y rfl (Y.pickF rfl rfl) ?_
    refine L.nil (E.thenN (W.condF rfl ?_))
    refine W.skip (E.thenN (W.seq (W.seq (W.region (L.y rfl (Y.move rfl) ?_)))))
    cases h
set_option maxRecDepth 100000 in
set_option maxHeartbeats 8000000 in
theorem w53_code_GetNat (a0 : (List UInt8)) (w : World) (r : (Int × Int × Int)) (h : m53_code_GetNat a0 = some r) : Does Tryd.prog 53 [st a0] w fun u m => u = .tuple #[.int .u64 r.1, .int .i64 r.2.1, .int .i64 r.2.2] ∧ m = [] := by
  rw [m53_code_GetNat] at h
  refine body (n := 42) Tryd.func53 rfl rfl rfl (Cls.refl w) ?_
  refine W.seq (W.region (L.y rfl (Y.assign rfl) ?_))
  refine L.y rfl (Y.assign rfl) ?_
  refine L.y rfl (Y.assign rfl) ?_
  refine L.nil (E.thenN (W.seq (W.region (L.y rfl (Y.assign rfl) ?_))))
  refine L.nil (E.thenN (W.seqJ (fun gs D => gs = [] ∧ D = Cls w [] [] ∧ m53_code_GetNat_K1 = some r) ?_ ?_))
  ·
   refine W.seq (W.region (L.y rfl (Y.move rfl) ?_))
   refine L.y rfl (Y.lenS Tryd.underlying9 rfl) ?_
   refine L.y rfl (Y.move rfl) ?_
   refine L.nil (E.thenN (W.block (W.loopJ (fun m gs D => ∃ (gx1 : Int) (gx2 : Int), gs = [(0, st a0), (5, .int .u64 gx1), (9, .int .i64 (a0.length : Int)), (10, .int .i64 gx2)] ∧ D = Cls w [] [] ∧ m53_code_GetNat_L1 a0 m gx1 gx2 = some r) ⟨0, 0, rfl, rfl, h⟩ ⟨rfl, rfl, rfl, rfl, trivial⟩ (fun _ hw => hw) ?_)))
   rintro m _ _ ⟨gx1, gx2, rfl, rfl, h⟩
   rcases m with _ | m
   · rw [m53_code_GetNat_L1] at h; cases h
   rw [m53_code_GetNat_L1] at h
   generalize hg1 : m53_code_GetNat_L1 a0 m = go1 at h
   rw [m53_code_GetNat_L1B] at h
   refine W.seq (W.region (L.ite h rfl (Y.lss rfl rfl) (fun c1 h => ?_) (fun c1 h => ?_)))
   ·
    refine L.nil (E.thenN (W.seq (W.condT rfl ?_)))
    refine W.skip (E.thenN (W.seq (W.block (W.seq (W.region (L.y rfl (Y.move rfl) ?_))))))
    refine L.y rfl (Y.assign rfl) ?_
    refine L.nil (E.thenN (W.seq (W.region (L.y rfl (Y.move rfl) ?_))))
    refine L.y rfl (Y.move rfl) ?_
    refine L.m (V := fun x2 => .int .u8 x2) h rfl (Y.indexSM Tryd.underlying9 rfl rfl) (fun x2 ex2 h => ?_)
    refine L.y rfl (Y.assign rfl) ?_
    refine L.nil (E.thenN (W.seqJ (fun gs D => gs = [(0, st a0), (5, .int .u64 gx1), (6, .int .i64 gx2), (7, .int .u8 x2), (9, .int .i64 (a0.length : Int)), (10, .int .i64 gx2)] ∧ D = Cls w [] [] ∧ m53_code_GetNat_K2 gx2 x2 gx1 go1 = some r) ?_ ?_))
    ·
     refine W.seq (W.region (L.y rfl (Y.move rfl) ?_))
     refine L.ite h rfl (Y.eql rfl rfl) (fun c10 h => ?_) (fun c10 h => ?_)
     ·
      refine L.y rfl (Y.move rfl) ?_
      refine L.take rfl (L.y rfl (Y.move rfl) ?_)
      refine L.take rfl (L.ite h rfl (Y.gtr rfl rfl) (fun c11 h => ?_) (fun c11 h => ?_))
      ·
       refine L.y rfl (Y.pickT rfl rfl) ?_
       refine L.nil (E.thenN (W.condT rfl ?_))
       refine W.seq (W.region (L.y rfl (Y.assign rfl) ?_))
       refine L.y rfl (Y.assign rfl) ?_
       refine L.y rfl (Y.assign rfl) ?_
       refine L.nil (E.thenN (W.ret (E.KSR (E.blockR (E.thenR (E.KLR (E.blockR (E.KSR (E.ret3 rfl rfl rfl rfl (fun w1 hw => ?_))))))))))
       obtain rfl := Option.some.inj h
       exact ⟨_, _, rfl, ⟨rfl, rfl⟩, hw⟩
      ·
       refine L.y rfl (Y.pickT rfl rfl) ?_
       refine L.nil (E.thenN (W.condF rfl ?_))
       exact W.skip (E.joinJ ⟨rfl, rfl, h⟩ ⟨rfl, rfl, rfl, rfl, rfl, rfl, trivial⟩ (fun _ hw => hw))
     ·
      refine L.y rfl (Y.move rfl) ?_
      refine L.pass rfl rfl (by nofun) ?_
      refine L.pass rfl rfl (by nofun) ?_
      refine L.y rfl (Y.pickF rfl rfl) ?_
      refine L.nil (E.thenN (W.condF rfl ?_))
      exact W.skip (E.joinJ ⟨rfl, rfl, h⟩ ⟨rfl, rfl, rfl, rfl, rfl, rfl, trivial⟩ (fun _ hw => hw))
    ·
     rintro _ _ ⟨rfl, rfl, h⟩
     rw [m53_code_GetNat_K2] at h
     refine W.seq (W.region (L.y rfl (Y.move rfl) ?_))
     refine L.y rfl (Y.move rfl) ?_
     refine L.y rfl (Y.and rfl rfl) ?_
     refine L.y rfl (Y.conv Tryd.underlying5 Tryd.underlying95 rfl) ?_
     refine L.y rfl (Y.move rfl) ?_
     refine L.m (V := fun x3 => .int .i64 x3) h rfl (Y.mulM rfl rfl) (fun x3 ex3 h => ?_)
     refine L.m (V := fun x4 => .int .u64 x4) h rfl (Y.shlM rfl rfl) (fun x4 ex4 h => ?_)
     refine L.y rfl (Y.or rfl rfl) ?_
     refine L.y rfl (Y.assign rfl) ?_
     refine L.nil (E.thenN (W.seq (W.region (L.y rfl (Y.move rfl) ?_))))
     refine L.ite h rfl (Y.lss rfl rfl) (fun c5 h => ?_) (fun c5 h => ?_)
     ·
      refine L.nil (E.thenN (W.condT rfl ?_))
      refine W.seqJ (fun gs D => gs = [(5, .int .u64 (Go.bits .or .u64 gx1 x4)), (6, .int .i64 gx2)] ∧ D = Cls w [] [] ∧ m53_code_GetNat_K3 gx2 gx1 x4 = some r) ?_ ?_
      ·
       refine W.seq (W.region (L.y rfl (Y.move rfl) ?_))
       refine L.ite h rfl (Y.eql rfl rfl) (fun c7 h => ?_) (fun c7 h => ?_)
       ·
        refine L.y rfl (Y.move rfl) ?_
        refine L.take rfl (L.y rfl (Y.move rfl) ?_)
        refine L.take rfl (L.ite h rfl (Y.gtr rfl rfl) (fun c8 h => ?_) (fun c8 h => ?_))
        ·
         refine L.y rfl (Y.pickT rfl rfl) ?_
         refine L.nil (E.thenN (W.condT rfl ?_))
         refine W.seq (W.region (L.y rfl (Y.assign rfl) ?_))
         refine L.y rfl (Y.assign rfl) ?_
         refine L.y rfl (Y.assign rfl) ?_
         refine L.nil (E.thenN (W.ret (E.KSR (E.blockR (E.thenR (E.KLR (E.blockR (E.KSR (E.ret3 rfl rfl rfl rfl (fun w1 hw => ?_))))))))))
         obtain rfl := Option.some.inj h
         exact ⟨_, _, rfl, ⟨rfl, rfl⟩, hw⟩
        ·
         refine L.y rfl (Y.pickT rfl rfl) ?_
         refine L.nil (E.thenN (W.condF rfl ?_))
         exact W.skip (E.joinJ ⟨rfl, rfl, h⟩ ⟨rfl, rfl, trivial⟩ (fun _ hw => hw))
       ·
        refine L.y rfl (Y.move rfl) ?_
        refine L.pass rfl rfl (by nofun) ?_
        refine L.pass rfl rfl (by nofun) ?_
        refine L.y rfl (Y.pickF rfl rfl) ?_
        refine L.nil (E.thenN (W.condF rfl ?_))
        exact W.skip (E.joinJ ⟨rfl, rfl, h⟩ ⟨rfl, rfl, trivial⟩ (fun _ hw => hw))
      ·
       rintro _ _ ⟨rfl, rfl, h⟩
       rw [m53_code_GetNat_K3] at h
       refine W.seq (W.region (L.y rfl (Y.move rfl) ?_))
       refine L.y rfl (Y.move rfl) ?_
       refine L.m (V := fun x6 => .int .i64 x6) h rfl (Y.addM rfl rfl) (fun x6 ex6 h => ?_)
       refine L.y rfl (Y.assign rfl) ?_
       refine L.y rfl (Y.assign rfl) ?_
       refine L.y rfl (Y.assign rfl) ?_
       refine L.nil (E.thenN (W.ret (E.blockR (E.thenR (E.KLR (E.blockR (E.KSR (E.ret3 rfl rfl rfl rfl (fun w1 hw => ?_)))))))))
       obtain rfl := Option.some.inj h
       exact ⟨_, _, rfl, ⟨rfl, rfl⟩, hw⟩
     ·
      refine L.nil (E.thenN (W.condF rfl ?_))
      refine W.skip (E.blockN (E.thenN (W.region (L.m (V := fun x9 => .int .i64 x9) h rfl (Y.addM rfl rfl) (fun x9 ex9 h => ?_)))))
      refine L.y rfl (Y.move rfl) ?_
      exact L.nil (E.againJ ⟨Go.bits .or .u64 gx1 x4, x9, rfl, rfl, by rw [hg1]; exact h⟩ (Nat.lt_succ_self _) ⟨rfl, rfl, rfl, rfl, trivial⟩ (fun _ hw => hw))
   ·
    refine L.nil (E.thenN (W.seq (W.condF rfl ?_)))
    exact W.exit (E.thenX (E.KLX (E.blockX (E.joinJ ⟨rfl, rfl, h⟩ trivial (fun _ hw => hw)))))
  ·
   rintro _ _ ⟨rfl, rfl, h⟩
   rw [m53_code_GetNat_K1] at h
   refine W.seq (W.region (L.y rfl (Y.assign rfl) ?_))
   refine L.y rfl (Y.assign rfl) ?_
   refine L.y rfl (Y.assign rfl) ?_
   refine L.nil (E.thenN (W.ret (E.ret3 rfl rfl rfl rfl (fun w1 hw => ?_))))
   obtain rfl := Option.some.inj h
   exact ⟨_, _, rfl, ⟨rfl, rfl⟩, hw⟩
set_option maxRecDepth 100000 in
set_option maxHeartbeats 8000000 in
theorem w50_code_GetInt (a0 : (List UInt8)) (w : World) (r : (Int × Int × Int)) (h : m50_code_GetInt a0 = some r) : Does Tryd.prog 50 [st a0] w fun u m => u = .tuple #[.int .i64 r.1, .int .i64 r.2.1, .int .i64 r.2.2] ∧ m = [] := by
  rw [m50_code_GetInt] at h
  refine body (n := 28) Tryd.func50 rfl rfl rfl (Cls.refl w) ?_
  refine W.seq (W.region (L.y rfl (Y.assign rfl) ?_))
  refine L.y rfl (Y.assign rfl) ?_
  refine L.y rfl (Y.assign rfl) ?_
  refine L.nil (E.thenN (W.seq (W.region (L.y rfl (Y.move rfl) ?_))))
  obtain ⟨x1, x2, x3, e4, h⟩ := bind3S h
  refine L.y rfl (Y.does en53 rfl (fun w' hw => (w53_code_GetNat a0 w' _ e4).mono (fun _ _ h => h.1))) ?_
  refine L.y rfl (Y.move rfl) ?_
  refine L.y rfl (Y.extract rfl rfl) ?_
  refine L.y rfl (Y.extract rfl rfl) ?_
  refine L.y rfl (Y.extract rfl rfl) ?_
  refine L.y rfl (Y.assign rfl) ?_
  refine L.y rfl (Y.assign rfl) ?_
  refine L.y rfl (Y.assign rfl) ?_
  refine L.nil (E.thenN (W.seqJ (fun gs D => gs = [(5, .int .u64 x1), (6, .int .i64 x2)] ∧ D = Cls w [] [] ∧ m50_code_GetInt_K1 x1 x2 = some r) ?_ ?_))
  ·
   refine W.seq (W.region (L.y rfl (Y.move rfl) ?_))
   refine L.ite h rfl (Y.neq rfl rfl) (fun c7 h => ?_) (fun c7 h => ?_)
   ·
    refine L.nil (E.thenN (W.condT rfl ?_))
    refine W.seq (W.region (L.y rfl (Y.move rfl) ?_))
    refine L.y rfl (Y.assign rfl) ?_
    refine L.y rfl (Y.assign rfl) ?_
    refine L.y rfl (Y.assign rfl) ?_
    refine L.nil (E.thenN (W.ret (E.KSR (E.ret3 rfl rfl rfl rfl (fun w1 hw => ?_)))))
    obtain rfl := Option.some.inj h
    exact ⟨_, _, rfl, ⟨rfl, rfl⟩, hw⟩
   ·
    refine L.nil (E.thenN (W.condF rfl ?_))
    exact W.skip (E.joinJ ⟨rfl, rfl, h⟩ ⟨rfl, rfl, trivial⟩ (fun _ hw => hw))
  ·
   rintro _ _ ⟨rfl, rfl, h⟩
   rw [m50_code_GetInt_K1] at h
   refine W.seq (W.region (L.y rfl (Y.move rfl) ?_))
   refine L.m (V := fun x5 => .int .u64 x5) h rfl (Y.shrM rfl rfl) (fun x5 ex5 h => ?_)
   refine L.y rfl (Y.assign rfl) ?_
   refine L.nil (E.thenN (W.seqJ (fun gs D => ∃ (gx1 : Int), gs = [(6, .int .i64 x2), (8, .int .u64 gx1)] ∧ D = Cls w [] [] ∧ m50_code_GetInt_K2 x2 gx1 = some r) ?_ ?_))
   ·
    refine W.seq (W.region (L.y rfl (Y.move rfl) ?_))
    refine L.y rfl (Y.and rfl rfl) ?_
    refine L.ite h rfl (Y.eql rfl rfl) (fun c6 h => ?_) (fun c6 h => ?_)
    ·
     refine L.nil (E.thenN (W.condT rfl ?_))
     refine W.region (L.y rfl (Y.move rfl) ?_)
     refine L.y rfl (Y.comM rfl) ?_
     refine L.y rfl (Y.assign rfl) ?_
     exact L.nil (E.joinJ ⟨comW .u64 x5, rfl, rfl, h⟩ ⟨rfl, rfl, trivial⟩ (fun _ hw => hw))
    ·
     refine L.nil (E.thenN (W.condF rfl ?_))
     exact W.skip (E.joinJ ⟨x5, rfl, rfl, h⟩ ⟨rfl, rfl, trivial⟩ (fun _ hw => hw))
   ·
    rintro _ _ ⟨gx1, rfl, rfl, h⟩
    rw [m50_code_GetInt_K2] at h
    refine W.seq (W.region (L.y rfl (Y.move rfl) ?_))
    refine L.y rfl (Y.conv Tryd.underlying95 Tryd.underlying3 rfl) ?_
    refine L.y rfl (Y.move rfl) ?_
    refine L.y rfl (Y.assign rfl) ?_
    refine L.y rfl (Y.assign rfl) ?_
    refine L.y rfl (Y.assign rfl) ?_
    refine L.nil (E.thenN (W.ret (E.ret3 rfl rfl rfl rfl (fun w1 hw => ?_))))
    obtain rfl := Option.some.inj h
    exact ⟨_, _, rfl, ⟨rfl, rfl⟩, hw⟩
set_option maxRecDepth 100000 in
set_option maxHeartbeats 8000000 in
theorem w80_code_PutNat (a0 : Int) (w : World) (r : (List UInt8)) (h : m80_code_PutNat a0 = some r) : Does Tryd.prog 80 [.int .u64 a0] w fun u m => u = st r ∧ m = [] := by
  rw [m80_code_PutNat] at h
  refine body (n := 20) Tryd.func80 rfl rfl rfl (Cls.refl w) ?_
  refine W.seq (W.region (L.y rfl (Y.assign rfl) ?_))
  refine L.nil (E.thenN (W.seq (W.region (L.y rfl (Y.assign rfl) ?_))))
  refine L.nil (E.thenN (W.seqJ (fun gs D => ∃ (gx1 : Int) (gv2 : Value) (gl3 : (List Int)), gs = [(0, .int .u64 gx1), (3, gv2)] ∧ D = Cls w [] [.sl gv2 5 1 (gl3.map (IK .u8))] ∧ m80_code_PutNat_K1 gx1 gl3 = some r) ?_ ?_))
  ·
   refine W.block (W.nilSl 5 1 ?_)
   refine W.loopJ (fun m gs D => ∃ (gx4 : Int) (gv5 : Value) (gl6 : (List Int)), gs = [(0, .int .u64 gx4), (3, gv5)] ∧ D = Cls w [] [.sl gv5 5 1 (gl6.map (IK .u8))] ∧ m80_code_PutNat_L1 m gx4 gl6 = some r) ⟨a0, .slice none 0 0, [], rfl, rfl, h⟩ ⟨rfl, rfl, trivial⟩ (fun _ hw => hw) ?_
   rintro m _ _ ⟨gx4, gv5, gl6, rfl, rfl, h⟩
   rcases m with _ | m
   · rw [m80_code_PutNat_L1] at h; cases h
   rw [m80_code_PutNat_L1] at h
   generalize hg1 : m80_code_PutNat_L1 m = go1 at h
   rw [m80_code_PutNat_L1B] at h
   refine W.seq (W.seq (W.region (L.y rfl (Y.move rfl) ?_)))
   refine L.ite h rfl (Y.geq rfl rfl) (fun c4 h => ?_) (fun c4 h => ?_)
   ·
    refine L.nil (E.thenN (W.condT rfl ?_))
    refine W.skip (E.thenN (W.block (W.seq (W.region (L.y rfl (Y.move rfl) ?_)))))
    refine L.y rfl (Y.move rfl) ?_
    refine L.y rfl (Y.conv Tryd.underlying95 Tryd.underlying5 rfl) ?_
    refine L.y rfl (Y.or rfl rfl) ?_
    refine L.litOne rfl Tryd.underlying82 eL5 rfl rfl ?_
    intro b5
    refine L.appM (i := 1) (g := (IK .u8)) (l := gl6) (more := [Go.bits .or .u8 (IntKind.wrap .u8 gx4) 128]) h rfl Tryd.underlying82 eL5 rfl rfl rfl (fun w hw => As.at_ (hw.get (i := 0) rfl)) (plain_IK _) rfl ?_
    intro v6 l7 el7 h
    refine L.y rfl (Y.assign rfl) ?_
    refine L.nil (E.thenN (W.region (L.y rfl (Y.move rfl) ?_)))
    refine L.m (V := fun x8 => .int .u64 x8) h rfl (Y.shrM rfl rfl) (fun x8 ex8 h => ?_)
    refine L.y rfl (Y.assign rfl) ?_
    exact L.nil (E.blockN (E.againJ ⟨x8, v6, l7, rfl, rfl, by rw [hg1]; exact h⟩ (Nat.lt_succ_self _) ⟨rfl, rfl, trivial⟩ (fun _ hw => hw.sel [0] (by decide) rfl)))
   ·
    refine L.nil (E.thenN (W.condF rfl ?_))
    exact W.exit (E.thenX (E.KLX (E.blockX (E.joinJ ⟨gx4, gv5, gl6, rfl, rfl, h⟩ ⟨rfl, rfl, trivial⟩ (fun _ hw => hw)))))
  ·
   rintro _ _ ⟨gx1, gv2, gl3, rfl, rfl, h⟩
   rw [m80_code_PutNat_K1] at h
   refine W.seq (W.region (L.y rfl (Y.move rfl) ?_))
   refine L.y rfl (Y.move rfl) ?_
   refine L.y rfl (Y.conv Tryd.underlying95 Tryd.underlying5 rfl) ?_
   refine L.litOne rfl Tryd.underlying82 eL5 rfl rfl ?_
   intro b1
   refine L.appM (i := 1) (g := (IK .u8)) (l := gl3) (more := [IntKind.wrap .u8 gx1]) h rfl Tryd.underlying82 eL5 rfl rfl rfl (fun w hw => As.at_ (hw.get (i := 0) rfl)) (plain_IK _) rfl ?_
   intro v2 l3 el3 h
   refine L.y rfl (Y.convBytes (l := l3) Tryd.underlying82 Tryd.underlying5 Tryd.underlying9 rfl (fun w hw => As.at_ (hw.get (i := 0) rfl))) ?_
   refine L.y rfl (Y.assign rfl) ?_
   refine L.nil (E.thenN (W.ret (E.ret1 rfl rfl (fun w1 hw => ?_))))
   obtain rfl := Option.some.inj h
   exact ⟨_, _, rfl, ⟨rfl, rfl⟩, hw.sel [] (by decide) rfl⟩
set_option maxRecDepth 100000 in
set_option maxHeartbeats 8000000 in
theorem w78_code_PutInt (a0 : Int) (w : World) (r : (List UInt8)) (h : m78_code_PutInt a0 = some r) : Does Tryd.prog 78 [.int .i64 a0] w fun u m => u = st r ∧ m = [] := by
  rw [m78_code_PutInt] at h
  refine body (n := 13) Tryd.func78 rfl rfl rfl (Cls.refl w) ?_
  refine W.seq (W.region (L.y rfl (Y.assign rfl) ?_))
  refine L.nil (E.thenN (W.seq (W.region (L.y rfl (Y.move rfl) ?_))))
  refine L.y rfl (Y.conv Tryd.underlying3 Tryd.underlying95 rfl) ?_
  refine L.m (V := fun x1 => .int .u64 x1) h rfl (Y.shlM rfl rfl) (fun x1 ex1 h => ?_)
  refine L.y rfl (Y.assign rfl) ?_
  refine L.nil (E.thenN (W.seq (W.seq (W.region (L.y rfl (Y.move rfl) ?_)))))
  refine L.ite h rfl (Y.lss rfl rfl) (fun c2 h => ?_) (fun c2 h => ?_)
  ·
   refine L.nil (E.thenN (W.condT rfl ?_))
   refine W.region (L.y rfl (Y.move rfl) ?_)
   refine L.y rfl (Y.comM rfl) ?_
   refine L.y rfl (Y.assign rfl) ?_
   refine L.nil (E.thenN (W.seq (W.region (L.y rfl (Y.move rfl) ?_))))
   obtain ⟨s3, e4, h⟩ := bind1S h
   refine L.y rfl (Y.does en80 rfl (fun w' hw => (w80_code_PutNat (comW .u64 x1) w' _ e4).mono (fun _ _ h => h.1))) ?_
   refine L.y rfl (Y.assign rfl) ?_
   refine L.nil (E.thenN (W.ret (E.ret1 rfl rfl (fun w1 hw => ?_))))
   obtain rfl := Option.some.inj h
   exact ⟨_, _, rfl, ⟨rfl, rfl⟩, hw⟩
  ·
   refine L.nil (E.thenN (W.condF rfl ?_))
   refine W.skip (E.thenN (W.seq (W.region (L.y rfl (Y.move rfl) ?_))))
   obtain ⟨s5, e6, h⟩ := bind1S h
   refine L.y rfl (Y.does en80 rfl (fun w' hw => (w80_code_PutNat x1 w' _ e6).mono (fun _ _ h => h.1))) ?_
   refine L.y rfl (Y.assign rfl) ?_
   refine L.nil (E.thenN (W.ret (E.ret1 rfl rfl (fun w1 hw => ?_))))
   obtain rfl := Option.some.inj h
   exact ⟨_, _, rfl, ⟨rfl, rfl⟩, hw⟩
set_option maxRecDepth 100000 in
set_option maxHeartbeats 8000000 in
theorem w81_fold_Sum (a0 : (List UInt8)) (w : World) (r : Int) (h : m81_fold_Sum a0 = some r) : Does Tryd.prog 81 [st a0] w fun u m => u = .int .u32 r ∧ m = [] := by
  rw [m81_fold_Sum] at h
  refine body (n := 27) Tryd.func81 rfl rfl rfl (Cls.refl w) ?_
  refine W.seq (W.region (L.y rfl (Y.assign rfl) ?_))
  refine L.nil (E.thenN (W.seq (W.region (L.y rfl (Y.assign rfl) ?_))))
  refine L.y rfl (Y.assign rfl) ?_
  refine L.nil (E.thenN (W.seqJ (fun gs D => ∃ (gx1 : Int) (gx2 : Int), gs = [(3, .int .u32 gx1), (4, .int .u32 gx2)] ∧ D = Cls w [] [] ∧ m81_fold_Sum_K1 gx1 gx2 = some r) ?_ ?_))
  ·
   refine W.seq (W.region (L.y rfl (Y.move rfl) ?_))
   refine L.y rfl (Y.lenS Tryd.underlying9 rfl) ?_
   refine L.y rfl (Y.move rfl) ?_
   refine L.nil (E.thenN (W.block (W.loopJ (fun m gs D => ∃ (gx3 : Int) (gx4 : Int) (gx5 : Int), gs = [(0, st a0), (3, .int .u32 gx3), (4, .int .u32 gx4), (7, .int .i64 (a0.length : Int)), (8, .int .i64 gx5)] ∧ D = Cls w [] [] ∧ m81_fold_Sum_L1 a0 m gx3 gx4 gx5 = some r) ⟨1, 0, 0, rfl, rfl, h⟩ ⟨rfl, rfl, rfl, rfl, rfl, trivial⟩ (fun _ hw => hw) ?_)))
   rintro m _ _ ⟨gx3, gx4, gx5, rfl, rfl, h⟩
   rcases m with _ | m
   · rw [m81_fold_Sum_L1] at h; cases h
   rw [m81_fold_Sum_L1] at h
   generalize hg1 : m81_fold_Sum_L1 a0 m = go1 at h
   rw [m81_fold_Sum_L1B] at h
   refine W.seq (W.region (L.ite h rfl (Y.lss rfl rfl) (fun c2 h => ?_) (fun c2 h => ?_)))
   ·
    refine L.nil (E.thenN (W.seq (W.condT rfl ?_)))
    refine W.skip (E.thenN (W.seq (W.block (W.seq (W.region (L.y rfl (Y.move rfl) ?_))))))
    refine L.y rfl (Y.assign rfl) ?_
    refine L.nil (E.thenN (W.seq (W.region (L.y rfl (Y.move rfl) ?_))))
    refine L.y rfl (Y.move rfl) ?_
    refine L.y rfl (Y.move rfl) ?_
    refine L.m (V := fun x3 => .int .u8 x3) h rfl (Y.indexSM Tryd.underlying9 rfl rfl) (fun x3 ex3 h => ?_)
    refine L.y rfl (Y.conv Tryd.underlying5 Tryd.underlying102 rfl) ?_
    refine L.y rfl (Y.addW rfl rfl) ?_
    refine L.m (V := fun x4 => .int .u32 x4) h rfl (Y.remM rfl rfl) (fun x4 ex4 h => ?_)
    refine L.y rfl (Y.assign rfl) ?_
    refine L.nil (E.thenN (W.region (L.y rfl (Y.move rfl) ?_)))
    refine L.y rfl (Y.move rfl) ?_
    refine L.y rfl (Y.addW rfl rfl) ?_
    refine L.m (V := fun x5 => .int .u32 x5) h rfl (Y.remM rfl rfl) (fun x5 ex5 h => ?_)
    refine L.y rfl (Y.assign rfl) ?_
    refine L.nil (E.blockN (E.thenN (W.region (L.m (V := fun x6 => .int .i64 x6) h rfl (Y.addM rfl rfl) (fun x6 ex6 h => ?_)))))
    refine L.y rfl (Y.move rfl) ?_
    exact L.nil (E.againJ ⟨x4, x5, x6, rfl, rfl, by rw [hg1]; exact h⟩ (Nat.lt_succ_self _) ⟨rfl, rfl, rfl, rfl, rfl, trivial⟩ (fun _ hw => hw))
   ·
    refine L.nil (E.thenN (W.seq (W.condF rfl ?_)))
    exact W.exit (E.thenX (E.KLX (E.blockX (E.joinJ ⟨gx3, gx4, rfl, rfl, h⟩ ⟨rfl, rfl, trivial⟩ (fun _ hw => hw)))))
  ·
   rintro _ _ ⟨gx1, gx2, rfl, rfl, h⟩
   rw [m81_fold_Sum_K1] at h
   refine W.seq (W.region (L.y rfl (Y.move rfl) ?_))
   refine L.m (V := fun x1 => .int .u32 x1) h rfl (Y.shlM rfl rfl) (fun x1 ex1 h => ?_)
   refine L.y rfl (Y.move rfl) ?_
   refine L.y rfl (Y.or rfl rfl) ?_
   refine L.y rfl (Y.assign rfl) ?_
   refine L.nil (E.thenN (W.ret (E.ret1 rfl rfl (fun w1 hw => ?_))))
   obtain rfl := Option.some.inj h
   exact ⟨_, _, rfl, ⟨rfl, rfl⟩, hw⟩
set_option maxRecDepth 100000 in
set_option maxHeartbeats 8000000 in
theorem w62_fold_Put (a0 : (List UInt8)) (w : World) (r : ((List UInt8) × Int)) (h : m62_fold_Put a0 = some r) : Does Tryd.prog 62 [st a0] w fun u m => u = .tuple #[st r.1, .int .i64 r.2] ∧ m = [] := by
  rw [m62_fold_Put] at h
  refine body (n := 25) Tryd.func62 rfl rfl rfl (Cls.refl w) ?_
  refine W.seq (W.region (L.y rfl (Y.assign rfl) ?_))
  refine L.y rfl (Y.assign rfl) ?_
  refine L.nil (E.thenN (W.seqJ (fun gs D => gs = [(0, st a0)] ∧ D = Cls w [] [] ∧ m62_fold_Put_K1 a0 = some r) ?_ ?_))
  ·
   refine W.seq (W.region (L.y rfl (Y.move rfl) ?_))
   refine L.y rfl (Y.lenS Tryd.underlying9 rfl) ?_
   refine L.ite h rfl (Y.gtr rfl rfl) (fun c8 h => ?_) (fun c8 h => ?_)
   ·
    refine L.nil (E.thenN (W.condT rfl ?_))
    refine W.seq (W.region (L.y rfl (Y.assign rfl) ?_))
    refine L.y rfl (Y.assign rfl) ?_
    refine L.nil (E.thenN (W.ret (E.KSR (E.ret2 rfl rfl rfl (fun w1 hw => ?_)))))
    obtain rfl := Option.some.inj h
    exact ⟨_, _, rfl, ⟨rfl, rfl⟩, hw⟩
   ·
    refine L.nil (E.thenN (W.condF rfl ?_))
    exact W.skip (E.joinJ ⟨rfl, rfl, h⟩ ⟨rfl, trivial⟩ (fun _ hw => hw))
  ·
   rintro _ _ ⟨rfl, rfl, h⟩
   rw [m62_fold_Put_K1] at h
   refine W.seq (W.region (L.y rfl (Y.move rfl) ?_))
   obtain ⟨x1, e2, h⟩ := bind1S h
   refine L.y rfl (Y.does en81 rfl (fun w' hw => (w81_fold_Sum a0 w' _ e2).mono (fun _ _ h => h.1))) ?_
   refine L.y rfl (Y.assign rfl) ?_
   refine L.nil (E.thenN (W.seq (W.region (L.y rfl (Y.move rfl) ?_))))
   refine L.y rfl (Y.move rfl) ?_
   refine L.m (V := fun x3 => .int .u32 x3) h rfl (Y.shrM rfl rfl) (fun x3 ex3 h => ?_)
   refine L.y rfl (Y.conv Tryd.underlying102 Tryd.underlying5 rfl) ?_
   refine L.y rfl (Y.move rfl) ?_
   refine L.m (V := fun x4 => .int .u32 x4) h rfl (Y.shrM rfl rfl) (fun x4 ex4 h => ?_)
   refine L.y rfl (Y.conv Tryd.underlying102 Tryd.underlying5 rfl) ?_
   refine L.y rfl (Y.move rfl) ?_
   refine L.m (V := fun x5 => .int .u32 x5) h rfl (Y.shrM rfl rfl) (fun x5 ex5 h => ?_)
   refine L.y rfl (Y.conv Tryd.underlying102 Tryd.underlying5 rfl) ?_
   refine L.y rfl (Y.move rfl) ?_
   refine L.y rfl (Y.conv Tryd.underlying102 Tryd.underlying5 rfl) ?_
   refine L.lit (xs := [.tmp 13, .tmp 16, .tmp 19, .tmp 21]) rfl Tryd.underlying82 eL5 rfl rfl rfl rfl (by simp [Value.cells, st]) ?_
   intro b6
   refine L.y rfl (Y.convBytes (l := [IntKind.wrap .u8 x3, IntKind.wrap .u8 x4, IntKind.wrap .u8 x5, IntKind.wrap .u8 x1]) Tryd.underlying82 Tryd.underlying5 Tryd.underlying9 rfl (fun w hw => As.at_ (hw.get (i := 0) rfl))) ?_
   refine L.m (V := fun s7 => st s7) h rfl (Y.catM rfl rfl) (fun s7 es7 h => ?_)
   refine L.y rfl (Y.assign rfl) ?_
   refine L.y rfl (Y.assign rfl) ?_
   refine L.nil (E.thenN (W.ret (E.ret2 rfl rfl rfl (fun w1 hw => ?_))))
   obtain rfl := Option.some.inj h
   exact ⟨_, _, rfl, ⟨rfl, rfl⟩, hw.sel [] (by decide) rfl⟩
set_option maxRecDepth 100000 in
set_option maxHeartbeats 8000000 in
theorem w51_wal_anchorText (a0 : Int) (w : World) (r : (List UInt8)) (h : m51_wal_anchorText a0 = some r) : Does Tryd.prog 51 [.int .i64 a0] w fun u m => u = st r ∧ m = [] := by
  rw [m51_wal_anchorText] at h
  refine body (n := 13) Tryd.func51 rfl rfl rfl (Cls.refl w) ?_
  refine W.seq (W.region (L.y rfl (Y.assign rfl) ?_))
  refine L.nil (E.thenN (W.seq (W.region (L.y rfl (Y.move rfl) ?_))))
  obtain ⟨s1, e2, h⟩ := bind1S h
  refine L.y rfl (Y.does en78 rfl (fun w' hw => (w78_code_PutInt a0 w' _ e2).mono (fun _ _ h => h.1))) ?_
  obtain ⟨s3, x4, e5, h⟩ := bind2S h
  refine L.y rfl (Y.does en62 rfl (fun w' hw => (w62_fold_Put s1 w' _ e5).mono (fun _ _ h => h.1))) ?_
  refine L.y rfl (Y.move rfl) ?_
  refine L.y rfl (Y.extract rfl rfl) ?_
  refine L.y rfl (Y.extract rfl rfl) ?_
  refine L.y rfl (Y.assign rfl) ?_
  refine L.y rfl (Y.assign rfl) ?_
  refine L.nil (E.thenN (W.seq (W.region (L.y rfl (Y.move rfl) ?_))))
  refine L.m (V := fun s6 => st s6) h rfl (Y.catM rfl rfl) (fun s6 es6 h => ?_)
  refine L.y rfl (Y.assign rfl) ?_
  refine L.nil (E.thenN (W.ret (E.ret1 rfl rfl (fun w1 hw => ?_))))
  obtain rfl := Option.some.inj h
  exact ⟨_, _, rfl, ⟨rfl, rfl⟩, hw⟩
set_option maxRecDepth 100000 in
set_option maxHeartbeats 8000000 in
theorem w25_wal_epochOf (a0 : (List UInt8)) (w : World) (r : (Int × Int)) (h : m25_wal_epochOf a0 = some r) : Does Tryd.prog 25 [st a0] w fun u m => u = .tuple #[.int .i64 r.1, .int .i64 r.2] ∧ m = [] := by
  rw [m25_wal_epochOf] at h
  refine body (n := 41) Tryd.func25 rfl rfl rfl (Cls.refl w) ?_
  refine W.seq (W.region (L.y rfl (Y.assign rfl) ?_))
  refine L.y rfl (Y.assign rfl) ?_
  refine L.nil (E.thenN (W.seqJ (fun gs D => gs = [(0, st a0)] ∧ D = Cls w [] [] ∧ m25_wal_epochOf_K1 a0 = some r) ?_ ?_))
  ·
   refine W.seq (W.region (L.y rfl (Y.move rfl) ?_))
   obtain ⟨s16, e17, h⟩ := bind1S h
   refine L.y rfl (Y.does en49 rfl (fun w' hw => (w49_strings_Trim a0 ([0]) w' _ e17).mono (fun _ _ h => h.1))) ?_
   refine L.ite h rfl (Y.eqlS rfl rfl) (fun c18 h => ?_) (fun c18 h => ?_)
   ·
    refine L.nil (E.thenN (W.condT rfl ?_))
    refine W.seq (W.region (L.y rfl (Y.assign rfl) ?_))
    refine L.y rfl (Y.assign rfl) ?_
    refine L.nil (E.thenN (W.ret (E.KSR (E.ret2 rfl rfl rfl (fun w1 hw => ?_)))))
    obtain rfl := Option.some.inj h
    exact ⟨_, _, rfl, ⟨rfl, rfl⟩, hw⟩
   ·
    refine L.nil (E.thenN (W.condF rfl ?_))
    exact W.skip (E.joinJ ⟨rfl, rfl, h⟩ ⟨rfl, trivial⟩ (fun _ hw => hw))
  ·
   rintro _ _ ⟨rfl, rfl, h⟩
   rw [m25_wal_epochOf_K1] at h
   refine W.seq (W.region (L.y rfl (Y.move rfl) ?_))
   refine L.m (V := fun s1 => st s1) h rfl (Y.sliceSL Tryd.underlying9 rfl rfl) (fun s1 es1 h => ?_)
   obtain ⟨x2, x3, x4, e5, h⟩ := bind3S h
   refine L.y rfl (Y.does en50 rfl (fun w' hw => (w50_code_GetInt s1 w' _ e5).mono (fun _ _ h => h.1))) ?_
   refine L.y rfl (Y.move rfl) ?_
   refine L.y rfl (Y.extract rfl rfl) ?_
   refine L.y rfl (Y.extract rfl rfl) ?_
   refine L.y rfl (Y.extract rfl rfl) ?_
   refine L.y rfl (Y.assign rfl) ?_
   refine L.y rfl (Y.assign rfl) ?_
   refine L.y rfl (Y.assign rfl) ?_
   refine L.nil (E.thenN (W.seq (W.region (L.y rfl (Y.move rfl) ?_))))
   obtain ⟨s6, e7, h⟩ := bind1S h
   refine L.y rfl (Y.does en51 rfl (fun w' hw => (w51_wal_anchorText x2 w' _ e7).mono (fun _ _ h => h.1))) ?_
   refine L.y rfl (Y.assign rfl) ?_
   refine L.nil (E.thenN (W.seq (W.seq (W.region (L.cutJ 6 (fun gs D => ∃ (gb1 : Bool), gs = [(0, st a0), (4, .int .i64 x2), (7, st s6), (25, .bool gb1)] ∧ D = Cls w [] [] ∧ m25_wal_epochOf_K2 x2 s6 a0 gb1 = some r) ?_ ?_)))))
   ·
    refine L.y rfl (Y.move rfl) ?_
    refine L.ite h rfl (Y.neq rfl rfl) (fun c14 h => ?_) (fun c14 h => ?_)
    ·
     refine L.y rfl (Y.move rfl) ?_
     refine L.pass rfl rfl (by nofun) ?_
     refine L.pass rfl rfl (by nofun) ?_
     refine L.y rfl (Y.pickT rfl rfl) ?_
     exact L.nil (E.joinJ ⟨true, rfl, rfl, h⟩ ⟨rfl, rfl, rfl, rfl, trivial⟩ (fun _ hw => hw))
    ·
     refine L.y rfl (Y.move rfl) ?_
     refine L.take rfl (L.y rfl (Y.move rfl) ?_)
     refine L.take rfl (L.ite h rfl (Y.lss rfl rfl) (fun c15 h => ?_) (fun c15 h => ?_))
     ·
      refine L.y rfl (Y.pickF rfl rfl) ?_
      exact L.nil (E.joinJ ⟨true, rfl, rfl, h⟩ ⟨rfl, rfl, rfl, rfl, trivial⟩ (fun _ hw => hw))
     ·
      refine L.y rfl (Y.pickF rfl rfl) ?_
      exact L.nil (E.joinJ ⟨false, rfl, rfl, h⟩ ⟨rfl, rfl, rfl, rfl, trivial⟩ (fun _ hw => hw))
   ·
    rintro _ _ ⟨gb1, rfl, rfl, h⟩
    rw [m25_wal_epochOf_K2] at h
    rcases gb1 with _ | _
    ·
     replace h := iteF h
     refine L.y rfl (Y.move rfl) ?_
     refine L.take rfl (L.y rfl (Y.move rfl) ?_)
     refine L.take rfl (L.ite h rfl (Y.gtr rfl rfl) (fun c8 h => ?_) (fun c8 h => ?_))
     ·
      refine L.y rfl (Y.pickF rfl rfl) ?_
      refine L.y rfl (Y.move rfl) ?_
      refine L.pass rfl rfl (by nofun) ?_
      refine L.pass rfl rfl (by nofun) ?_
      refine L.pass rfl rfl (by nofun) ?_
      refine L.pass rfl rfl (by nofun) ?_
      refine L.pass rfl rfl (by nofun) ?_
      refine L.pass rfl rfl (by nofun) ?_
      refine L.pass rfl rfl (by nofun) ?_
      refine L.pass rfl rfl (by nofun) ?_
      refine L.y rfl (Y.pickT rfl rfl) ?_
      refine L.nil (E.thenN (W.condT rfl ?_))
      refine W.seq (W.region (L.y rfl (Y.assign rfl) ?_))
      refine L.y rfl (Y.assign rfl) ?_
      refine L.nil (E.thenN (W.ret (E.thenR (E.ret2 rfl rfl rfl (fun w1 hw => ?_)))))
      obtain rfl := Option.some.inj h
      exact ⟨_, _, rfl, ⟨rfl, rfl⟩, hw⟩
     ·
      refine L.y rfl (Y.pickF rfl rfl) ?_
      refine L.y rfl (Y.move rfl) ?_
      refine L.take rfl (L.y rfl (Y.move rfl) ?_)
      refine L.take rfl (L.y rfl (Y.move rfl) ?_)
      refine L.take rfl (L.y rfl (Y.lenS Tryd.underlying9 rfl) ?_)
      refine L.take rfl (L.m (V := fun x9 => .int .i64 x9) h rfl (Y.subM rfl rfl) (fun x9 ex9 h => ?_))
      refine L.take rfl ?_
      obtain ⟨s10, e11, h⟩ := bind1S h
      refine L.y rfl (Y.does en22 rfl (fun w' hw => (wRepeat ([0]) x9 w' _ e11).mono (fun _ _ h => h.1))) ?_
      refine L.take rfl (L.m (V := fun s12 => st s12) h rfl (Y.catM rfl rfl) (fun s12 es12 h => ?_))
      refine L.take rfl (L.y rfl (Y.move rfl) ?_)
      refine L.take rfl (L.ite h rfl (Y.neqS rfl rfl) (fun c13 h => ?_) (fun c13 h => ?_))
      ·
       refine L.y rfl (Y.pickF rfl rfl) ?_
       refine L.nil (E.thenN (W.condT rfl ?_))
       refine W.seq (W.region (L.y rfl (Y.assign rfl) ?_))
       refine L.y rfl (Y.assign rfl) ?_
       refine L.nil (E.thenN (W.ret (E.thenR (E.ret2 rfl rfl rfl (fun w1 hw => ?_)))))
       obtain rfl := Option.some.inj h
       exact ⟨_, _, rfl, ⟨rfl, rfl⟩, hw⟩
      ·
       refine L.y rfl (Y.pickF rfl rfl) ?_
       refine L.nil (E.thenN (W.condF rfl ?_))
       refine W.skip (E.thenN (W.seq (W.region (L.y rfl (Y.move rfl) ?_))))
       refine L.y rfl (Y.assign rfl) ?_
       refine L.y rfl (Y.assign rfl) ?_
       refine L.nil (E.thenN (W.ret (E.ret2 rfl rfl rfl (fun w1 hw => ?_))))
       obtain rfl := Option.some.inj h
       exact ⟨_, _, rfl, ⟨rfl, rfl⟩, hw⟩
    ·
     replace h := iteT h
     refine L.y rfl (Y.move rfl) ?_
     refine L.pass rfl rfl (by nofun) ?_
     refine L.pass rfl rfl (by nofun) ?_
     refine L.y rfl (Y.pickT rfl rfl) ?_
     refine L.y rfl (Y.move rfl) ?_
     refine L.pass rfl rfl (by nofun) ?_
     refine L.pass rfl rfl (by nofun) ?_
     refine L.pass rfl rfl (by nofun) ?_
     refine L.pass rfl rfl (by nofun) ?_
     refine L.pass rfl rfl (by nofun) ?_
     refine L.pass rfl rfl (by nofun) ?_
     refine L.pass rfl rfl (by nofun) ?_
     refine L.pass rfl rfl (by nofun) ?_
     refine L.y rfl (Y.pickT rfl rfl) ?_
     refine L.nil (E.thenN (W.condT rfl ?_))
     refine W.seq (W.region (L.y rfl (Y.assign rfl) ?_))
     refine L.y rfl (Y.assign rfl) ?_
     refine L.nil (E.thenN (W.ret (E.thenR (E.ret2 rfl rfl rfl (fun w1 hw => ?_)))))
     obtain rfl := Option.some.inj h
     exact ⟨_, _, rfl, ⟨rfl, rfl⟩, hw⟩
set_option maxRecDepth 100000 in
set_option maxHeartbeats 8000000 in
theorem w52_wal_headed (a0 : (List UInt8)) (a1 : Int) (w : World) (r : (Int × (List UInt8) × Bool)) (h : m52_wal_headed a0 a1 = some r) : Does Tryd.prog 52 [st a0, .int .i64 a1] w fun u m => u = .tuple #[.int .i64 r.1, st r.2.1, .bool r.2.2] ∧ m = [] := by
  rw [m52_wal_headed] at h
  refine body (n := 47) Tryd.func52 rfl rfl rfl (Cls.refl w) ?_
  refine W.seq (W.region (L.y rfl (Y.assign rfl) ?_))
  refine L.y rfl (Y.assign rfl) ?_
  refine L.y rfl (Y.assign rfl) ?_
  refine L.nil (E.thenN (W.seqJ (fun gs D => gs = [(0, st a0), (1, .int .i64 a1)] ∧ D = Cls w [] [] ∧ m52_wal_headed_K1 a0 a1 = some r) ?_ ?_))
  ·
   refine W.seq (W.region (L.y rfl (Y.move rfl) ?_))
   refine L.m (V := fun s17 => st s17) h rfl (Y.sliceSH Tryd.underlying9 rfl rfl) (fun s17 es17 h => ?_)
   refine L.ite h rfl (Y.neqS rfl rfl) (fun c18 h => ?_) (fun c18 h => ?_)
   ·
    refine L.nil (E.thenN (W.condT rfl ?_))
    refine W.seq (W.region (L.y rfl (Y.assign rfl) ?_))
    refine L.y rfl (Y.assign rfl) ?_
    refine L.y rfl (Y.assign rfl) ?_
    refine L.nil (E.thenN (W.ret (E.KSR (E.ret3 rfl rfl rfl rfl (fun w1 hw => ?_)))))
    obtain rfl := Option.some.inj h
    exact ⟨_, _, rfl, ⟨rfl, rfl⟩, hw⟩
   ·
    refine L.nil (E.thenN (W.condF rfl ?_))
    exact W.skip (E.joinJ ⟨rfl, rfl, h⟩ ⟨rfl, rfl, trivial⟩ (fun _ hw => hw))
  ·
   rintro _ _ ⟨rfl, rfl, h⟩
   rw [m52_wal_headed_K1] at h
   refine W.seq (W.region (L.y rfl (Y.move rfl) ?_))
   refine L.m (V := fun s1 => st s1) h rfl (Y.sliceSL Tryd.underlying9 rfl rfl) (fun s1 es1 h => ?_)
   obtain ⟨x2, x3, x4, e5, h⟩ := bind3S h
   refine L.y rfl (Y.does en50 rfl (fun w' hw => (w50_code_GetInt s1 w' _ e5).mono (fun _ _ h => h.1))) ?_
   refine L.y rfl (Y.move rfl) ?_
   refine L.y rfl (Y.extract rfl rfl) ?_
   refine L.y rfl (Y.extract rfl rfl) ?_
   refine L.y rfl (Y.extract rfl rfl) ?_
   refine L.y rfl (Y.assign rfl) ?_
   refine L.y rfl (Y.assign rfl) ?_
   refine L.y rfl (Y.assign rfl) ?_
   refine L.nil (E.thenN (W.seqJ (fun gs D => gs = [(0, st a0), (1, .int .i64 a1), (7, .int .i64 x2), (8, .int .i64 x3)] ∧ D = Cls w [] [] ∧ m52_wal_headed_K2 x3 a0 x2 a1 = some r) ?_ ?_))
   ·
    refine W.seq (W.region (L.y rfl (Y.move rfl) ?_))
    refine L.ite h rfl (Y.neq rfl rfl) (fun c16 h => ?_) (fun c16 h => ?_)
    ·
     refine L.nil (E.thenN (W.condT rfl ?_))
     refine W.seq (W.region (L.y rfl (Y.assign rfl) ?_))
     refine L.y rfl (Y.assign rfl) ?_
     refine L.y rfl (Y.assign rfl) ?_
     refine L.nil (E.thenN (W.ret (E.KSR (E.ret3 rfl rfl rfl rfl (fun w1 hw => ?_)))))
     obtain rfl := Option.some.inj h
     exact ⟨_, _, rfl, ⟨rfl, rfl⟩, hw⟩
    ·
     refine L.nil (E.thenN (W.condF rfl ?_))
     exact W.skip (E.joinJ ⟨rfl, rfl, h⟩ ⟨rfl, rfl, rfl, rfl, trivial⟩ (fun _ hw => hw))
   ·
    rintro _ _ ⟨rfl, rfl, h⟩
    rw [m52_wal_headed_K2] at h
    refine W.seq (W.region (L.y rfl (Y.move rfl) ?_))
    refine L.y rfl (Y.move rfl) ?_
    refine L.m (V := fun x6 => .int .i64 x6) h rfl (Y.addM rfl rfl) (fun x6 ex6 h => ?_)
    refine L.m (V := fun s7 => st s7) h rfl (Y.sliceSL Tryd.underlying9 rfl rfl) (fun s7 es7 h => ?_)
    obtain ⟨x8, x9, x10, e11, h⟩ := bind3S h
    refine L.y rfl (Y.does en50 rfl (fun w' hw => (w50_code_GetInt s7 w' _ e11).mono (fun _ _ h => h.1))) ?_
    refine L.y rfl (Y.move rfl) ?_
    refine L.y rfl (Y.extract rfl rfl) ?_
    refine L.y rfl (Y.extract rfl rfl) ?_
    refine L.y rfl (Y.extract rfl rfl) ?_
    refine L.y rfl (Y.assign rfl) ?_
    refine L.y rfl (Y.assign rfl) ?_
    refine L.y rfl (Y.assign rfl) ?_
    refine L.nil (E.thenN (W.seq (W.quietC mixed (by kernel_rfl) (fun _ hw => hw.drew) (fun hC => ?_))))
    refine U.y rfl (Y.move rfl) ?_
    refine U.y rfl (Y.move rfl) ?_
    refine U.y rfl (Y.move rfl) ?_
    refine U.m (V := fun x12 => .int .i64 x12) h rfl (Y.addM rfl rfl) (fun x12 ex12 h => ?_)
    refine U.y rfl (Y.move rfl) ?_
    refine U.m (V := fun x13 => .int .i64 x13) h rfl (Y.addM rfl rfl) (fun x13 ex13 h => ?_)
    refine U.m (V := fun s14 => st s14) h rfl (Y.sliceSL Tryd.underlying9 rfl rfl) (fun s14 es14 h => ?_)
    refine U.y rfl (Y.move rfl) ?_
    refine U.ite h rfl (Y.eql rfl rfl) (fun c15 h => ?_) (fun c15 h => ?_)
    ·
     refine U.y rfl (Y.move rfl) ?_
     refine U.take rfl (U.y rfl (Y.move rfl) ?_)
     refine U.take rfl (U.y rfl (Y.move rfl) ?_)
     refine U.take rfl (U.y rfl (Y.eql rfl rfl) ?_)
     refine U.y rfl (Y.pickT rfl rfl) ?_
     refine U.y rfl (Y.assign rfl) ?_
     refine U.y rfl (Y.assign rfl) ?_
     refine U.y rfl (Y.assign rfl) ?_
     refine U.nil (E.thenN (W.ret (E.ret3 rfl rfl rfl rfl (fun w1 hw => ?_))))
     obtain rfl := Option.some.inj h
     exact ⟨_, _, rfl, ⟨rfl, rfl⟩, hw⟩
    ·
     refine U.y rfl (Y.move rfl) ?_
     refine U.pass rfl rfl (by nofun) ?_
     refine U.pass rfl rfl (by nofun) ?_
     refine U.pass rfl rfl (by nofun) ?_
     refine U.y rfl (Y.pickF rfl rfl) ?_
     refine U.y rfl (Y.assign rfl) ?_
     refine U.y rfl (Y.assign rfl) ?_
     refine U.y rfl (Y.assign rfl) ?_
     refine U.nil (E.thenN (W.ret (E.ret3 rfl rfl rfl rfl (fun w1 hw => ?_))))
     obtain rfl := Option.some.inj h
     exact ⟨_, _, rfl, ⟨rfl, rfl⟩, hw⟩
set_option maxRecDepth 100000 in
set_option maxHeartbeats 8000000 in
theorem w54_wal_head (a0 : (List UInt8)) (a1 : Int) (a2 : Int) (w : World) (r : (List UInt8)) (h : m54_wal_head a0 a1 a2 = some r) : Does Tryd.prog 54 [st a0, .int .i64 a1, .int .i64 a2] w fun u m => u = st r ∧ m = [] := by
  rw [m54_wal_head] at h
  refine body (n := 14) Tryd.func54 rfl rfl rfl (Cls.refl w) ?_
  refine W.seq (W.region (L.y rfl (Y.assign rfl) ?_))
  refine L.nil (E.thenN (W.seq (W.region (L.y rfl (Y.move rfl) ?_))))
  refine L.y rfl (Y.move rfl) ?_
  obtain ⟨s1, e2, h⟩ := bind1S h
  refine L.y rfl (Y.does en78 rfl (fun w' hw => (w78_code_PutInt a1 w' _ e2).mono (fun _ _ h => h.1))) ?_
  refine L.m (V := fun s3 => st s3) h rfl (Y.catM rfl rfl) (fun s3 es3 h => ?_)
  refine L.y rfl (Y.move rfl) ?_
  obtain ⟨s4, e5, h⟩ := bind1S h
  refine L.y rfl (Y.does en78 rfl (fun w' hw => (w78_code_PutInt a2 w' _ e5).mono (fun _ _ h => h.1))) ?_
  refine L.m (V := fun s6 => st s6) h rfl (Y.catM rfl rfl) (fun s6 es6 h => ?_)
  refine L.y rfl (Y.assign rfl) ?_
  refine L.nil (E.thenN (W.ret (E.ret1 rfl rfl (fun w1 hw => ?_))))
  obtain rfl := Option.some.inj h
  exact ⟨_, _, rfl, ⟨rfl, rfl⟩, hw⟩
set_option maxRecDepth 100000 in
set_option maxHeartbeats 8000000 in
theorem w68_stringslite_HasPrefix (a0 : (List UInt8)) (a1 : (List UInt8)) (w : World) (r : Bool) (h : m68_stringslite_HasPrefix a0 a1 = some r) : Does Tryd.prog 68 [st a0, st a1] w fun u m => u = .bool r ∧ m = [] := by
  rw [m68_stringslite_HasPrefix] at h
  refine body (n := 18) Tryd.func68 rfl rfl rfl (Cls.refl w) ?_
  refine W.seq (W.region (L.y rfl (Y.assign rfl) ?_))
  refine L.nil (E.thenN (W.seq (W.region (L.y rfl (Y.move rfl) ?_))))
  refine L.y rfl (Y.lenS Tryd.underlying9 rfl) ?_
  refine L.y rfl (Y.move rfl) ?_
  refine L.y rfl (Y.lenS Tryd.underlying9 rfl) ?_
  refine L.ite h rfl (Y.geq rfl rfl) (fun c1 h => ?_) (fun c1 h => ?_)
  ·
   refine L.y rfl (Y.move rfl) ?_
   refine L.take rfl (L.y rfl (Y.move rfl) ?_)
   refine L.take rfl (L.y rfl (Y.move rfl) ?_)
   refine L.take rfl (L.y rfl (Y.lenS Tryd.underlying9 rfl) ?_)
   refine L.take rfl (L.m (V := fun s2 => st s2) h rfl (Y.sliceSH Tryd.underlying9 rfl rfl) (fun s2 es2 h => ?_))
   refine L.take rfl (L.y rfl (Y.move rfl) ?_)
   refine L.take rfl (L.y rfl (Y.eqlS rfl rfl) ?_)
   refine L.y rfl (Y.pickT rfl rfl) ?_
   refine L.y rfl (Y.assign rfl) ?_
   refine L.nil (E.thenN (W.ret (E.ret1 rfl rfl (fun w1 hw => ?_))))
   obtain rfl := Option.some.inj h
   exact ⟨_, _, rfl, ⟨rfl, rfl⟩, hw⟩
  ·
   refine L.y rfl (Y.move rfl) ?_
   refine L.pass rfl rfl (by nofun) ?_
   refine L.pass rfl rfl (by nofun) ?_
   refine L.pass rfl rfl (by nofun) ?_
   refine L.pass rfl rfl (by nofun) ?_
   refine L.pass rfl rfl (by nofun) ?_
   refine L.pass rfl rfl (by nofun) ?_
   refine L.y rfl (Y.pickF rfl rfl) ?_
   refine L.y rfl (Y.assign rfl) ?_
   refine L.nil (E.thenN (W.ret (E.ret1 rfl rfl (fun w1 hw => ?_))))
   obtain rfl := Option.some.inj h
   exact ⟨_, _, rfl, ⟨rfl, rfl⟩, hw⟩
set_option maxRecDepth 100000 in
set_option maxHeartbeats 8000000 in
theorem w44_strings_HasPrefix (a0 : (List UInt8)) (a1 : (List UInt8)) (w : World) (r : Bool) (h : m44_strings_HasPrefix a0 a1 = some r) : Does Tryd.prog 44 [st a0, st a1] w fun u m => u = .bool r ∧ m = [] := by
  rw [m44_strings_HasPrefix] at h
  refine body (n := 8) Tryd.func44 rfl rfl rfl (Cls.refl w) ?_
  refine W.seq (W.region (L.y rfl (Y.assign rfl) ?_))
  refine L.nil (E.thenN (W.seq (W.region (L.y rfl (Y.move rfl) ?_))))
  refine L.y rfl (Y.move rfl) ?_
  obtain ⟨b1, e2, h⟩ := bind1S h
  refine L.y rfl (Y.does en68 rfl (fun w' hw => (w68_stringslite_HasPrefix a0 a1 w' _ e2).mono (fun _ _ h => h.1))) ?_
  refine L.y rfl (Y.assign rfl) ?_
  refine L.nil (E.thenN (W.ret (E.ret1 rfl rfl (fun w1 hw => ?_))))
  obtain rfl := Option.some.inj h
  exact ⟨_, _, rfl, ⟨rfl, rfl⟩, hw⟩
set_option maxRecDepth 100000 in
set_option maxHeartbeats 8000000 in
theorem w55_fold_Get (a0 : (List UInt8)) (w : World) (r : ((List UInt8) × Int)) (h : m55_fold_Get a0 = some r) : Does Tryd.prog 55 [st a0] w fun u m => u = .tuple #[st r.1, .int .i64 r.2] ∧ m = [] := by
  rw [m55_fold_Get] at h
  refine body (n := 27) Tryd.func55 rfl rfl rfl (Cls.refl w) ?_
  refine W.seq (W.region (L.y rfl (Y.assign rfl) ?_))
  refine L.y rfl (Y.assign rfl) ?_
  refine L.nil (E.thenN (W.seq (W.region (L.y rfl (Y.move rfl) ?_))))
  refine L.y rfl (Y.lenS Tryd.underlying9 rfl) ?_
  refine L.m (V := fun x1 => .int .i64 x1) h rfl (Y.subM rfl rfl) (fun x1 ex1 h => ?_)
  refine L.y rfl (Y.assign rfl) ?_
  refine L.nil (E.thenN (W.seqJ (fun gs D => gs = [(0, st a0), (4, .int .i64 x1)] ∧ D = Cls w [] [] ∧ m55_fold_Get_K1 x1 a0 = some r) ?_ ?_))
  ·
   refine W.seq (W.region (L.y rfl (Y.move rfl) ?_))
   refine L.ite h rfl (Y.lss rfl rfl) (fun c9 h => ?_) (fun c9 h => ?_)
   ·
    refine L.nil (E.thenN (W.condT rfl ?_))
    refine W.seq (W.region (L.y rfl (Y.assign rfl) ?_))
    refine L.y rfl (Y.assign rfl) ?_
    refine L.nil (E.thenN (W.ret (E.KSR (E.ret2 rfl rfl rfl (fun w1 hw => ?_)))))
    obtain rfl := Option.some.inj h
    exact ⟨_, _, rfl, ⟨rfl, rfl⟩, hw⟩
   ·
    refine L.nil (E.thenN (W.condF rfl ?_))
    exact W.skip (E.joinJ ⟨rfl, rfl, h⟩ ⟨rfl, rfl, trivial⟩ (fun _ hw => hw))
  ·
   rintro _ _ ⟨rfl, rfl, h⟩
   rw [m55_fold_Get_K1] at h
   refine W.seqJ (fun gs D => gs = [(0, st a0), (4, .int .i64 x1)] ∧ D = Cls w [] [] ∧ m55_fold_Get_K2 a0 x1 = some r) ?_ ?_
   ·
    refine W.seq (W.region (L.y rfl (Y.move rfl) ?_))
    refine L.ite h rfl (Y.gtr rfl rfl) (fun c8 h => ?_) (fun c8 h => ?_)
    ·
     refine L.nil (E.thenN (W.condT rfl ?_))
     refine W.seq (W.region (L.y rfl (Y.assign rfl) ?_))
     refine L.y rfl (Y.assign rfl) ?_
     refine L.nil (E.thenN (W.ret (E.KSR (E.ret2 rfl rfl rfl (fun w1 hw => ?_)))))
     obtain rfl := Option.some.inj h
     exact ⟨_, _, rfl, ⟨rfl, rfl⟩, hw⟩
    ·
     refine L.nil (E.thenN (W.condF rfl ?_))
     exact W.skip (E.joinJ ⟨rfl, rfl, h⟩ ⟨rfl, rfl, trivial⟩ (fun _ hw => hw))
   ·
    rintro _ _ ⟨rfl, rfl, h⟩
    rw [m55_fold_Get_K2] at h
    refine W.seq (W.seq (W.region (L.y rfl (Y.move rfl) ?_)))
    refine L.y rfl (Y.move rfl) ?_
    refine L.m (V := fun s2 => st s2) h rfl (Y.sliceSH Tryd.underlying9 rfl rfl) (fun s2 es2 h => ?_)
    obtain ⟨s3, x4, e5, h⟩ := bind2S h
    refine L.y rfl (Y.does en62 rfl (fun w' hw => (w62_fold_Put s2 w' _ e5).mono (fun _ _ h => h.1))) ?_
    refine L.y rfl (Y.move rfl) ?_
    refine L.y rfl (Y.extract rfl rfl) ?_
    refine L.y rfl (Y.extract rfl rfl) ?_
    refine L.y rfl (Y.assign rfl) ?_
    refine L.y rfl (Y.assign rfl) ?_
    refine L.nil (E.thenN (W.seq (W.region (L.y rfl (Y.move rfl) ?_))))
    refine L.y rfl (Y.move rfl) ?_
    refine L.ite h rfl (Y.neqS rfl rfl) (fun c6 h => ?_) (fun c6 h => ?_)
    ·
     refine L.nil (E.thenN (W.condT rfl ?_))
     refine W.seq (W.region (L.y rfl (Y.assign rfl) ?_))
     refine L.y rfl (Y.assign rfl) ?_
     refine L.nil (E.thenN (W.ret (E.thenR (E.ret2 rfl rfl rfl (fun w1 hw => ?_)))))
     obtain rfl := Option.some.inj h
     exact ⟨_, _, rfl, ⟨rfl, rfl⟩, hw⟩
    ·
     refine L.nil (E.thenN (W.condF rfl ?_))
     refine W.skip (E.thenN (W.seq (W.region (L.y rfl (Y.move rfl) ?_))))
     refine L.y rfl (Y.move rfl) ?_
     refine L.m (V := fun s7 => st s7) h rfl (Y.sliceSH Tryd.underlying9 rfl rfl) (fun s7 es7 h => ?_)
     refine L.y rfl (Y.assign rfl) ?_
     refine L.y rfl (Y.assign rfl) ?_
     refine L.nil (E.thenN (W.ret (E.ret2 rfl rfl rfl (fun w1 hw => ?_))))
     obtain rfl := Option.some.inj h
     exact ⟨_, _, rfl, ⟨rfl, rfl⟩, hw⟩
set_option maxRecDepth 100000 in
set_option maxHeartbeats 8000000 in
theorem w26_wal_Log_read (a0_d_safe : (List (List UInt8))) (a0_d_seen : (List (List UInt8))) (a0_d_late : (List Twrite)) (a0_d_left : Int) (a0_from : Int) (a0_size : Int) (a0_epoch : Int) (a0_at : Int) (a0_seq : Int) (a0_fell : Bool) (a1 : Int) (a2 : Int) (pb0 : Nat) (pb0_d : Nat) (p0_d_safe : Value) (p0_d_seen : Value) (p0_d_late : Value) (w : World) (r : (Trecord × Bool)) (h : m26_wal_Log_read a0_d_safe a0_d_seen a0_d_late a0_d_left a0_from a0_size a0_epoch a0_at a0_seq a0_fell a1 a2 = some r) (F : List Nat) (hc0 : Cls w F [.obj pb0 [pt pb0_d 0, .int .i64 a0_from, .int .i64 a0_size, .int .i64 a0_epoch, .int .i64 a0_at, .int .i64 a0_seq, .bool a0_fell] 58, .obj pb0_d [p0_d_safe, p0_d_seen, p0_d_late, .int .i64 a0_d_left] 54, .sl p0_d_safe 9 1 (a0_d_safe.map SR), .sl p0_d_seen 9 1 (a0_d_seen.map SR), .sl p0_d_late 75 2 (a0_d_late.map Twrite.row)] w) : DoesF Tryd.prog 26 [pt pb0 0, .int .i64 a1, .int .i64 a2] F w fun u m => u = .tuple #[.agg #[.int .i64 r.1.epoch_, st r.1.text_, .int .i64 r.1.size_], .bool r.2] ∧ m = [.obj pb0 [pt pb0_d 0, .int .i64 a0_from, .int .i64 a0_size, .int .i64 a0_epoch, .int .i64 a0_at, .int .i64 a0_seq, .bool a0_fell] 58, .obj pb0_d [p0_d_safe, p0_d_seen, p0_d_late, .int .i64 a0_d_left] 54, .sl p0_d_safe 9 1 (a0_d_safe.map SR), .sl p0_d_seen 9 1 (a0_d_seen.map SR), .sl p0_d_late 75 2 (a0_d_late.map Twrite.row)] := by
  rw [m26_wal_Log_read] at h
  refine body (n := 138) Tryd.func26 rfl rfl rfl hc0 ?_
  refine W.seq (W.region (L.alloc rfl ze62 ?_))
  intro b1
  refine L.y rfl (Y.assign rfl) ?_
  refine L.nil (E.thenN (W.seqJ (fun gs D => gs = [(0, pt pb0 0), (1, .int .i64 a1), (2, .int .i64 a2), (6, pt b1 0)] ∧ D = Cls w F [.obj b1 [.int .i64 0, st [], .int .i64 0] 62, .obj pb0 [pt pb0_d 0, .int .i64 a0_from, .int .i64 a0_size, .int .i64 a0_epoch, .int .i64 a0_at, .int .i64 a0_seq, .bool a0_fell] 58, .obj pb0_d [p0_d_safe, p0_d_seen, p0_d_late, .int .i64 a0_d_left] 54, .sl p0_d_safe 9 1 (a0_d_safe.map SR), .sl p0_d_seen 9 1 (a0_d_seen.map SR), .sl p0_d_late 75 2 (a0_d_late.map Twrite.row)] ∧ m26_wal_Log_read_K1 a0_from a1 a0_d_safe a0_d_seen a0_d_late a0_d_left a2 a0_size = some r) ?_ ?_))
  ·
   refine W.seq (W.region (L.y rfl (Y.move rfl) ?_))
   refine L.y rfl (Y.move rfl) ?_
   refine L.y rfl (Y.nilCheck rfl) ?_
   refine L.y rfl (Y.fieldP fd58_2 rfl) ?_
   refine L.y rfl (Y.loadP (i := 1) ag3 rfl rfl rfl) ?_
   refine L.ite h rfl (Y.geq rfl rfl) (fun c42 h => ?_) (fun c42 h => ?_)
   ·
    refine L.nil (E.thenN (W.condT rfl ?_))
    refine W.seq (W.region (L.y rfl (Y.build (cells := #[.int .i64 0, st [], .int .i64 0]) rfl (by kernel_rfl)) ?_))
    refine L.store (i := 0) (vs := [.int .i64 0, st [], .int .i64 0]) sz62 rfl rfl rfl rfl (by simp [Value.oneCell', Value.cells, st, pt, el]) rfl (Nat.le_of_ble_eq_true rfl) ?_
    refine L.y rfl (Y.assign rfl) ?_
    refine L.nil (E.thenN (W.ret (E.KSR (E.retR2 rfl (Rv.cellW (i := 0) ag62 sz62 rfl rfl rfl) (Rv.tmp rfl) (fun w1 hw => ?_)))))
    obtain rfl := Option.some.inj h
    exact ⟨_, _, rfl, ⟨rfl, rfl⟩, hw.sel [1, 2, 3, 4, 5] (by decide) rfl⟩
   ·
    refine L.nil (E.thenN (W.condF rfl ?_))
    exact W.skip (E.joinJ ⟨rfl, rfl, h⟩ ⟨rfl, rfl, rfl, rfl, trivial⟩ (fun _ hw => hw))
  ·
   rintro _ _ ⟨rfl, rfl, h⟩
   rw [m26_wal_Log_read_K1] at h
   refine W.seq (W.drawn2 (k := 16) (stC [] [] (Cls w F [.obj b1 [.int .i64 0, st [], .int .i64 0] 62, .obj pb0 [pt pb0_d 0, .int .i64 a0_from, .int .i64 a0_size, .int .i64 a0_epoch, .int .i64 a0_at, .int .i64 a0_seq, .bool a0_fell] 58, .obj pb0_d [p0_d_safe, p0_d_seen, p0_d_late, .int .i64 a0_d_left] 54, .sl p0_d_safe 9 1 (a0_d_safe.map SR), .sl p0_d_seen 9 1 (a0_d_seen.map SR), .sl p0_d_late 75 2 (a0_d_late.map Twrite.row)])) rfl mixed (fun _ hw => hw.drew) (Sc.atD (fun _ hw => hw)) ?_)
   refine V2.y (i := 0) (Nx2.of (Z := Cls w F [.obj b1 [.int .i64 0, st [], .int .i64 0] 62, .obj pb0 [pt pb0_d 0, .int .i64 a0_from, .int .i64 a0_size, .int .i64 a0_epoch, .int .i64 a0_at, .int .i64 a0_seq, .bool a0_fell] 58, .obj pb0_d [p0_d_safe, p0_d_seen, p0_d_late, .int .i64 a0_d_left] 54, .sl p0_d_safe 9 1 (a0_d_safe.map SR), .sl p0_d_seen 9 1 (a0_d_seen.map SR), .sl p0_d_late 75 2 (a0_d_late.map Twrite.row)]) [] (by kernel_rfl) rfl (Zc.fin (fun _ hw => hw))) rfl rfl rfl (Y.move rfl) ?_
   refine V2.nilc (i := 1) (Nx2.of (Z := Cls w F [.obj b1 [.int .i64 0, st [], .int .i64 0] 62, .obj pb0 [pt pb0_d 0, .int .i64 a0_from, .int .i64 a0_size, .int .i64 a0_epoch, .int .i64 a0_at, .int .i64 a0_seq, .bool a0_fell] 58, .obj pb0_d [p0_d_safe, p0_d_seen, p0_d_late, .int .i64 a0_d_left] 54, .sl p0_d_safe 9 1 (a0_d_safe.map SR), .sl p0_d_seen 9 1 (a0_d_seen.map SR), .sl p0_d_late 75 2 (a0_d_late.map Twrite.row)]) [] (by kernel_rfl) rfl (Zc.fin (fun _ hw => hw))) rfl rfl rfl ?_
   refine V2.y (i := 2) (Nx2.of (Z := Cls w F [.obj b1 [.int .i64 0, st [], .int .i64 0] 62, .obj pb0 [pt pb0_d 0, .int .i64 a0_from, .int .i64 a0_size, .int .i64 a0_epoch, .int .i64 a0_at, .int .i64 a0_seq, .bool a0_fell] 58, .obj pb0_d [p0_d_safe, p0_d_seen, p0_d_late, .int .i64 a0_d_left] 54, .sl p0_d_safe 9 1 (a0_d_safe.map SR), .sl p0_d_seen 9 1 (a0_d_seen.map SR), .sl p0_d_late 75 2 (a0_d_late.map Twrite.row)]) [] (by kernel_rfl) rfl (Zc.fin (fun _ hw => hw))) rfl rfl rfl (Y.fieldP fd58_0 rfl) ?_
   refine V2.y (i := 3) (Nx2.of (Z := Cls w F [.obj b1 [.int .i64 0, st [], .int .i64 0] 62, .obj pb0 [pt pb0_d 0, .int .i64 a0_from, .int .i64 a0_size, .int .i64 a0_epoch, .int .i64 a0_at, .int .i64 a0_seq, .bool a0_fell] 58, .obj pb0_d [p0_d_safe, p0_d_seen, p0_d_late, .int .i64 a0_d_left] 54, .sl p0_d_safe 9 1 (a0_d_safe.map SR), .sl p0_d_seen 9 1 (a0_d_seen.map SR), .sl p0_d_late 75 2 (a0_d_late.map Twrite.row)]) [] (by kernel_rfl) rfl (Zc.fin (fun _ hw => hw))) rfl rfl rfl (Y.loadP (i := 1) ag23 rfl rfl rfl) ?_
   refine V2.y (i := 4) (Nx2.of (Z := Cls w F [.obj b1 [.int .i64 0, st [], .int .i64 0] 62, .obj pb0 [pt pb0_d 0, .int .i64 a0_from, .int .i64 a0_size, .int .i64 a0_epoch, .int .i64 a0_at, .int .i64 a0_seq, .bool a0_fell] 58, .obj pb0_d [p0_d_safe, p0_d_seen, p0_d_late, .int .i64 a0_d_left] 54, .sl p0_d_safe 9 1 (a0_d_safe.map SR), .sl p0_d_seen 9 1 (a0_d_seen.map SR), .sl p0_d_late 75 2 (a0_d_late.map Twrite.row)]) [] (by kernel_rfl) rfl (Zc.fin (fun _ hw => hw))) rfl rfl rfl (Y.move rfl) ?_
   refine V2.nilc (i := 5) (Nx2.of (Z := Cls w F [.obj b1 [.int .i64 0, st [], .int .i64 0] 62, .obj pb0 [pt pb0_d 0, .int .i64 a0_from, .int .i64 a0_size, .int .i64 a0_epoch, .int .i64 a0_at, .int .i64 a0_seq, .bool a0_fell] 58, .obj pb0_d [p0_d_safe, p0_d_seen, p0_d_late, .int .i64 a0_d_left] 54, .sl p0_d_safe 9 1 (a0_d_safe.map SR), .sl p0_d_seen 9 1 (a0_d_seen.map SR), .sl p0_d_late 75 2 (a0_d_late.map Twrite.row)]) [] (by kernel_rfl) rfl (Zc.fin (fun _ hw => hw))) rfl rfl rfl ?_
   refine V2.y (i := 6) (Nx2.of (Z := Cls w F [.obj b1 [.int .i64 0, st [], .int .i64 0] 62, .obj pb0 [pt pb0_d 0, .int .i64 a0_from, .int .i64 a0_size, .int .i64 a0_epoch, .int .i64 a0_at, .int .i64 a0_seq, .bool a0_fell] 58, .obj pb0_d [p0_d_safe, p0_d_seen, p0_d_late, .int .i64 a0_d_left] 54, .sl p0_d_safe 9 1 (a0_d_safe.map SR), .sl p0_d_seen 9 1 (a0_d_seen.map SR), .sl p0_d_late 75 2 (a0_d_late.map Twrite.row)]) [] (by kernel_rfl) rfl (Zc.fin (fun _ hw => hw))) rfl rfl rfl (Y.fieldP fd58_1 rfl) ?_
   refine V2.y (i := 7) (Nx2.of (Z := Cls w F [.obj b1 [.int .i64 0, st [], .int .i64 0] 62, .obj pb0 [pt pb0_d 0, .int .i64 a0_from, .int .i64 a0_size, .int .i64 a0_epoch, .int .i64 a0_at, .int .i64 a0_seq, .bool a0_fell] 58, .obj pb0_d [p0_d_safe, p0_d_seen, p0_d_late, .int .i64 a0_d_left] 54, .sl p0_d_safe 9 1 (a0_d_safe.map SR), .sl p0_d_seen 9 1 (a0_d_seen.map SR), .sl p0_d_late 75 2 (a0_d_late.map Twrite.row)]) [] (by kernel_rfl) rfl (Zc.fin (fun _ hw => hw))) rfl rfl rfl (Y.loadP (i := 1) ag3 rfl rfl rfl) ?_
   refine V2.y (i := 8) (Nx2.of (Z := Cls w F [.obj b1 [.int .i64 0, st [], .int .i64 0] 62, .obj pb0 [pt pb0_d 0, .int .i64 a0_from, .int .i64 a0_size, .int .i64 a0_epoch, .int .i64 a0_at, .int .i64 a0_seq, .bool a0_fell] 58, .obj pb0_d [p0_d_safe, p0_d_seen, p0_d_late, .int .i64 a0_d_left] 54, .sl p0_d_safe 9 1 (a0_d_safe.map SR), .sl p0_d_seen 9 1 (a0_d_seen.map SR), .sl p0_d_late 75 2 (a0_d_late.map Twrite.row)]) [] (by kernel_rfl) rfl (Zc.fin (fun _ hw => hw))) rfl rfl rfl (Y.move rfl) ?_
   refine V2.m (i := 9) (V' := fun x2 => .int .i64 x2) h (Nx2.of (Z := Cls w F [.obj b1 [.int .i64 0, st [], .int .i64 0] 62, .obj pb0 [pt pb0_d 0, .int .i64 a0_from, .int .i64 a0_size, .int .i64 a0_epoch, .int .i64 a0_at, .int .i64 a0_seq, .bool a0_fell] 58, .obj pb0_d [p0_d_safe, p0_d_seen, p0_d_late, .int .i64 a0_d_left] 54, .sl p0_d_safe 9 1 (a0_d_safe.map SR), .sl p0_d_seen 9 1 (a0_d_seen.map SR), .sl p0_d_late 75 2 (a0_d_late.map Twrite.row)]) [] (by kernel_rfl) rfl (Zc.fin (fun _ hw => hw))) rfl rfl rfl (Y.addM rfl rfl) (fun x2 ex2 h => ?_)
   refine V2.eff (i := 10) (by kernel_rfl) rfl ?_
   refine L.to (D := Cls w F [.obj pb0_d [p0_d_safe, p0_d_seen, p0_d_late, .int .i64 a0_d_left] 54, .sl p0_d_safe 9 1 (a0_d_safe.map SR), .sl p0_d_seen 9 1 (a0_d_seen.map SR), .sl p0_d_late 75 2 (a0_d_late.map Twrite.row), .obj b1 [.int .i64 0, st [], .int .i64 0] 62, .obj pb0 [pt pb0_d 0, .int .i64 a0_from, .int .i64 a0_size, .int .i64 a0_epoch, .int .i64 a0_at, .int .i64 a0_seq, .bool a0_fell] 58]) (fun _ hw => hw.sel [2, 3, 4, 5, 0, 1] (by decide) rfl) ?_
   obtain ⟨s3, x4, e5, h⟩ := bind2S h
   refine L.doesP (A := [.obj pb0_d [p0_d_safe, p0_d_seen, p0_d_late, .int .i64 a0_d_left] 54, .sl p0_d_safe 9 1 (a0_d_safe.map SR), .sl p0_d_seen 9 1 (a0_d_seen.map SR), .sl p0_d_late 75 2 (a0_d_late.map Twrite.row)]) (M := [.obj b1 [.int .i64 0, st [], .int .i64 0] 62, .obj pb0 [pt pb0_d 0, .int .i64 a0_from, .int .i64 a0_size, .int .i64 a0_epoch, .int .i64 a0_at, .int .i64 a0_seq, .bool a0_fell] 58]) rfl en21 rfl (fun w' hw => w21_sect_Disk_Read a0_d_safe a0_d_seen a0_d_late a0_d_left x2 pb0_d p0_d_safe p0_d_seen p0_d_late w' _ e5 _ hw.lend) ?_
   rintro _ _ ⟨rfl, rfl⟩
   refine L.to (D := Cls w F [.obj pb0_d [p0_d_safe, p0_d_seen, p0_d_late, .int .i64 a0_d_left] 54, .sl p0_d_safe 9 1 (a0_d_safe.map SR), .sl p0_d_seen 9 1 (a0_d_seen.map SR), .sl p0_d_late 75 2 (a0_d_late.map Twrite.row), .obj b1 [.int .i64 0, st [], .int .i64 0] 62, .obj pb0 [pt pb0_d 0, .int .i64 a0_from, .int .i64 a0_size, .int .i64 a0_epoch, .int .i64 a0_at, .int .i64 a0_seq, .bool a0_fell] 58]) (fun _ hw => hw) ?_
   refine L.nil (E.toV2 (stC [] [] (Cls w F [.obj pb0_d [p0_d_safe, p0_d_seen, p0_d_late, .int .i64 a0_d_left] 54, .sl p0_d_safe 9 1 (a0_d_safe.map SR), .sl p0_d_seen 9 1 (a0_d_seen.map SR), .sl p0_d_late 75 2 (a0_d_late.map Twrite.row), .obj b1 [.int .i64 0, st [], .int .i64 0] 62, .obj pb0 [pt pb0_d 0, .int .i64 a0_from, .int .i64 a0_size, .int .i64 a0_epoch, .int .i64 a0_at, .int .i64 a0_seq, .bool a0_fell] 58])) 10 (by kernel_rfl) (Sc.stayD (fun _ hw => hw.sel [4, 5, 0, 1, 2, 3] (by decide) rfl)) (Sc.atD (fun _ hw => hw)) ?_)
   refine V2.y (i := 11) (Nx2.of (Z := Cls w F [.obj pb0_d [p0_d_safe, p0_d_seen, p0_d_late, .int .i64 a0_d_left] 54, .sl p0_d_safe 9 1 (a0_d_safe.map SR), .sl p0_d_seen 9 1 (a0_d_seen.map SR), .sl p0_d_late 75 2 (a0_d_late.map Twrite.row), .obj b1 [.int .i64 0, st [], .int .i64 0] 62, .obj pb0 [pt pb0_d 0, .int .i64 a0_from, .int .i64 a0_size, .int .i64 a0_epoch, .int .i64 a0_at, .int .i64 a0_seq, .bool a0_fell] 58]) [] (by kernel_rfl) rfl (Zc.fin (fun _ hw => hw))) rfl rfl rfl (Y.move rfl) ?_
   refine V2.y (i := 12) (Nx2.of (Z := Cls w F [.obj pb0_d [p0_d_safe, p0_d_seen, p0_d_late, .int .i64 a0_d_left] 54, .sl p0_d_safe 9 1 (a0_d_safe.map SR), .sl p0_d_seen 9 1 (a0_d_seen.map SR), .sl p0_d_late 75 2 (a0_d_late.map Twrite.row), .obj b1 [.int .i64 0, st [], .int .i64 0] 62, .obj pb0 [pt pb0_d 0, .int .i64 a0_from, .int .i64 a0_size, .int .i64 a0_epoch, .int .i64 a0_at, .int .i64 a0_seq, .bool a0_fell] 58]) [] (by kernel_rfl) rfl (Zc.fin (fun _ hw => hw))) rfl rfl rfl (Y.extract rfl rfl) ?_
   refine V2.y (i := 13) (Nx2.of (Z := Cls w F [.obj pb0_d [p0_d_safe, p0_d_seen, p0_d_late, .int .i64 a0_d_left] 54, .sl p0_d_safe 9 1 (a0_d_safe.map SR), .sl p0_d_seen 9 1 (a0_d_seen.map SR), .sl p0_d_late 75 2 (a0_d_late.map Twrite.row), .obj b1 [.int .i64 0, st [], .int .i64 0] 62, .obj pb0 [pt pb0_d 0, .int .i64 a0_from, .int .i64 a0_size, .int .i64 a0_epoch, .int .i64 a0_at, .int .i64 a0_seq, .bool a0_fell] 58]) [] (by kernel_rfl) rfl (Zc.fin (fun _ hw => hw))) rfl rfl rfl (Y.extract rfl rfl) ?_
   refine V2.y (i := 14) (Nx2.of (Z := Cls w F [.obj pb0_d [p0_d_safe, p0_d_seen, p0_d_late, .int .i64 a0_d_left] 54, .sl p0_d_safe 9 1 (a0_d_safe.map SR), .sl p0_d_seen 9 1 (a0_d_seen.map SR), .sl p0_d_late 75 2 (a0_d_late.map Twrite.row), .obj b1 [.int .i64 0, st [], .int .i64 0] 62, .obj pb0 [pt pb0_d 0, .int .i64 a0_from, .int .i64 a0_size, .int .i64 a0_epoch, .int .i64 a0_at, .int .i64 a0_seq, .bool a0_fell] 58]) [] (by kernel_rfl) rfl (Zc.fin (fun _ hw => hw))) rfl rfl rfl (Y.assign rfl) ?_
   refine V2.y (i := 15) (Nx2.of (Z := Cls w F [.obj pb0_d [p0_d_safe, p0_d_seen, p0_d_late, .int .i64 a0_d_left] 54, .sl p0_d_safe 9 1 (a0_d_safe.map SR), .sl p0_d_seen 9 1 (a0_d_seen.map SR), .sl p0_d_late 75 2 (a0_d_late.map Twrite.row), .obj b1 [.int .i64 0, st [], .int .i64 0] 62, .obj pb0 [pt pb0_d 0, .int .i64 a0_from, .int .i64 a0_size, .int .i64 a0_epoch, .int .i64 a0_at, .int .i64 a0_seq, .bool a0_fell] 58]) [] (by kernel_rfl) rfl (Zc.fin (fun _ hw => hw))) rfl rfl rfl (Y.assign rfl) ?_
   refine V2.done (by kernel_rfl) ?_
   refine E.thenN (W.seqJ (fun gs D => gs = [(0, pt pb0 0), (1, .int .i64 a1), (2, .int .i64 a2), (6, pt b1 0), (8, st s3)] ∧ D = Cls w F [.obj pb0_d [p0_d_safe, p0_d_seen, p0_d_late, .int .i64 a0_d_left] 54, .obj b1 [.int .i64 0, st [], .int .i64 0] 62, .obj pb0 [pt pb0_d 0, .int .i64 a0_from, .int .i64 a0_size, .int .i64 a0_epoch, .int .i64 a0_at, .int .i64 a0_seq, .bool a0_fell] 58, .sl p0_d_safe 9 1 (a0_d_safe.map SR), .sl p0_d_seen 9 1 (a0_d_seen.map SR), .sl p0_d_late 75 2 (a0_d_late.map Twrite.row)] ∧ m26_wal_Log_read_K2 s3 a2 a1 a0_size a0_from a0_d_safe a0_d_seen a0_d_late a0_d_left = some r) ?_ ?_)
   ·
    refine W.seq (W.region (L.y rfl (Y.move rfl) ?_))
    refine L.ite h rfl (Y.neq rfl rfl) (fun c41 h => ?_) (fun c41 h => ?_)
    ·
     refine L.nil (E.thenN (W.condT rfl ?_))
     refine W.seq (W.region (L.y rfl (Y.build (cells := #[.int .i64 0, st [], .int .i64 0]) rfl (by kernel_rfl)) ?_))
     refine L.store (i := 4) (vs := [.int .i64 0, st [], .int .i64 0]) sz62 rfl rfl rfl rfl (by simp [Value.oneCell', Value.cells, st, pt, el]) rfl (Nat.le_of_ble_eq_true rfl) ?_
     refine L.y rfl (Y.assign rfl) ?_
     refine L.nil (E.thenN (W.ret (E.KSR (E.retR2 rfl (Rv.cellW (i := 4) ag62 sz62 rfl rfl rfl) (Rv.tmp rfl) (fun w1 hw => ?_)))))
     obtain rfl := Option.some.inj h
     exact ⟨_, _, rfl, ⟨rfl, rfl⟩, hw.sel [5, 0, 1, 2, 3] (by decide) rfl⟩
    ·
     refine L.nil (E.thenN (W.condF rfl ?_))
     exact W.skip (E.joinJ ⟨rfl, rfl, h⟩ ⟨rfl, rfl, rfl, rfl, rfl, trivial⟩ (fun _ hw => hw.sel [0, 4, 5, 1, 2, 3] (by decide) rfl))
   ·
    rintro _ _ ⟨rfl, rfl, h⟩
    rw [m26_wal_Log_read_K2] at h
    refine W.seq (W.region (L.y rfl (Y.move rfl) ?_))
    refine L.y rfl (Y.move rfl) ?_
    obtain ⟨x6, s7, b8, e9, h⟩ := bind3S h
    refine L.y rfl (Y.does en52 rfl (fun w' hw => (w52_wal_headed s3 a2 w' _ e9).mono (fun _ _ h => h.1))) ?_
    refine L.y rfl (Y.move rfl) ?_
    refine L.y rfl (Y.extract rfl rfl) ?_
    refine L.y rfl (Y.extract rfl rfl) ?_
    refine L.iteB h rfl (Y.extract rfl rfl) (fun c10 h => ?_) (fun c10 h => ?_)
    ·
     refine L.y rfl (Y.assign rfl) ?_
     refine L.y rfl (Y.assign rfl) ?_
     refine L.y rfl (Y.assign rfl) ?_
     refine L.nil (E.thenN (W.seq (W.seq (W.region (L.y rfl (Y.move rfl) ?_)))))
     refine L.y rfl (Y.not rfl) ?_
     refine L.nil (E.thenN (W.condF rfl ?_))
     refine W.skip (E.thenN (W.seq (W.region (L.y rfl (Y.move rfl) ?_))))
     obtain ⟨x11, x12, x13, e14, h⟩ := bind3S h
     refine L.y rfl (Y.does en53 rfl (fun w' hw => (w53_code_GetNat s7 w' _ e14).mono (fun _ _ h => h.1))) ?_
     refine L.y rfl (Y.move rfl) ?_
     refine L.y rfl (Y.extract rfl rfl) ?_
     refine L.y rfl (Y.extract rfl rfl) ?_
     refine L.y rfl (Y.extract rfl rfl) ?_
     refine L.y rfl (Y.assign rfl) ?_
     refine L.y rfl (Y.assign rfl) ?_
     refine L.y rfl (Y.assign rfl) ?_
     refine L.nil (E.thenN (W.seqJ (fun gs D => gs = [(0, pt pb0 0), (1, .int .i64 a1), (2, .int .i64 a2), (6, pt b1 0), (10, .int .i64 x6), (11, st s7), (13, .int .u64 x11), (14, .int .i64 x12)] ∧ D = Cls w F [.obj pb0_d [p0_d_safe, p0_d_seen, p0_d_late, .int .i64 a0_d_left] 54, .obj b1 [.int .i64 0, st [], .int .i64 0] 62, .obj pb0 [pt pb0_d 0, .int .i64 a0_from, .int .i64 a0_size, .int .i64 a0_epoch, .int .i64 a0_at, .int .i64 a0_seq, .bool a0_fell] 58, .sl p0_d_safe 9 1 (a0_d_safe.map SR), .sl p0_d_seen 9 1 (a0_d_seen.map SR), .sl p0_d_late 75 2 (a0_d_late.map Twrite.row)] ∧ m26_wal_Log_read_K3 x12 x11 x6 a2 a1 a0_size a0_from a0_d_safe a0_d_seen a0_d_late a0_d_left s7 = some r) ?_ ?_))
     ·
      refine W.seq (W.region (L.y rfl (Y.move rfl) ?_))
      refine L.ite h rfl (Y.neq rfl rfl) (fun c39 h => ?_) (fun c39 h => ?_)
      ·
       refine L.y rfl (Y.move rfl) ?_
       refine L.pass rfl rfl (by nofun) ?_
       refine L.pass rfl rfl (by nofun) ?_
       refine L.y rfl (Y.pickT rfl rfl) ?_
       refine L.nil (E.thenN (W.condT rfl ?_))
       refine W.seq (W.region (L.y rfl (Y.build (cells := #[.int .i64 0, st [], .int .i64 0]) rfl (by kernel_rfl)) ?_))
       refine L.store (i := 1) (vs := [.int .i64 0, st [], .int .i64 0]) sz62 rfl rfl rfl rfl (by simp [Value.oneCell', Value.cells, st, pt, el]) rfl (Nat.le_of_ble_eq_true rfl) ?_
       refine L.y rfl (Y.assign rfl) ?_
       refine L.nil (E.thenN (W.ret (E.KSR (E.retR2 rfl (Rv.cellW (i := 1) ag62 sz62 rfl rfl rfl) (Rv.tmp rfl) (fun w1 hw => ?_)))))
       obtain rfl := Option.some.inj h
       exact ⟨_, _, rfl, ⟨rfl, rfl⟩, hw.sel [2, 0, 3, 4, 5] (by decide) rfl⟩
      ·
       refine L.y rfl (Y.move rfl) ?_
       refine L.take rfl (L.y rfl (Y.move rfl) ?_)
       refine L.take rfl (L.ite h rfl (Y.gtr rfl rfl) (fun c40 h => ?_) (fun c40 h => ?_))
       ·
        refine L.y rfl (Y.pickF rfl rfl) ?_
        refine L.nil (E.thenN (W.condT rfl ?_))
        refine W.seq (W.region (L.y rfl (Y.build (cells := #[.int .i64 0, st [], .int .i64 0]) rfl (by kernel_rfl)) ?_))
        refine L.store (i := 1) (vs := [.int .i64 0, st [], .int .i64 0]) sz62 rfl rfl rfl rfl (by simp [Value.oneCell', Value.cells, st, pt, el]) rfl (Nat.le_of_ble_eq_true rfl) ?_
        refine L.y rfl (Y.assign rfl) ?_
        refine L.nil (E.thenN (W.ret (E.KSR (E.retR2 rfl (Rv.cellW (i := 1) ag62 sz62 rfl rfl rfl) (Rv.tmp rfl) (fun w1 hw => ?_)))))
        obtain rfl := Option.some.inj h
        exact ⟨_, _, rfl, ⟨rfl, rfl⟩, hw.sel [2, 0, 3, 4, 5] (by decide) rfl⟩
       ·
        refine L.y rfl (Y.pickF rfl rfl) ?_
        refine L.nil (E.thenN (W.condF rfl ?_))
        exact W.skip (E.joinJ ⟨rfl, rfl, h⟩ ⟨rfl, rfl, rfl, rfl, rfl, rfl, rfl, rfl, trivial⟩ (fun _ hw => hw))
     ·
      rintro _ _ ⟨rfl, rfl, h⟩
      rw [m26_wal_Log_read_K3] at h
      refine W.seq (W.region (L.y rfl (Y.move rfl) ?_))
      refine L.y rfl (Y.move rfl) ?_
      refine L.y rfl (Y.conv Tryd.underlying95 Tryd.underlying3 rfl) ?_
      refine L.m (V := fun x15 => .int .i64 x15) h rfl (Y.addM rfl rfl) (fun x15 ex15 h => ?_)
      refine L.m (V := fun x16 => .int .i64 x16) h rfl (Y.addM rfl rfl) (fun x16 ex16 h => ?_)
      refine L.y rfl (Y.assign rfl) ?_
      refine L.nil (E.thenN (W.seq (W.region (L.y rfl (Y.assign rfl) ?_))))
      refine L.nil (E.thenN (W.seqJ (fun gs D => ∃ (gs1 : (List UInt8)) (gx2 : Int), gs = [(6, pt b1 0), (10, .int .i64 x6), (11, st gs1), (14, .int .i64 x12), (15, .int .i64 x16), (16, .int .i64 gx2)] ∧ D = Cls w F [.obj pb0_d [p0_d_safe, p0_d_seen, p0_d_late, .int .i64 a0_d_left] 54, .obj b1 [.int .i64 0, st [], .int .i64 0] 62, .obj pb0 [pt pb0_d 0, .int .i64 a0_from, .int .i64 a0_size, .int .i64 a0_epoch, .int .i64 a0_at, .int .i64 a0_seq, .bool a0_fell] 58, .sl p0_d_safe 9 1 (a0_d_safe.map SR), .sl p0_d_seen 9 1 (a0_d_seen.map SR), .sl p0_d_late 75 2 (a0_d_late.map Twrite.row)] ∧ m26_wal_Log_read_K4 x16 x12 x6 gs1 gx2 = some r) ?_ ?_))
      ·
       refine W.seq (W.region (L.y rfl (Y.move rfl) ?_))
       refine L.y rfl (Y.move rfl) ?_
       obtain ⟨s23, e24, h⟩ := bind1S h
       refine L.y rfl (Y.does en54 rfl (fun w' hw => (w54_wal_head ([2]) x6 a2 w' _ e24).mono (fun _ _ h => h.1))) ?_
       refine L.y rfl (Y.assign rfl) ?_
       refine L.nil (E.thenN (W.block (W.loopJ (fun m gs D => ∃ (gs3 : (List UInt8)) (gx4 : Int), gs = [(0, pt pb0 0), (1, .int .i64 a1), (6, pt b1 0), (10, .int .i64 x6), (11, st gs3), (14, .int .i64 x12), (15, .int .i64 x16), (16, .int .i64 gx4), (17, st s23)] ∧ D = Cls w F [.obj pb0_d [p0_d_safe, p0_d_seen, p0_d_late, .int .i64 a0_d_left] 54, .obj b1 [.int .i64 0, st [], .int .i64 0] 62, .obj pb0 [pt pb0_d 0, .int .i64 a0_from, .int .i64 a0_size, .int .i64 a0_epoch, .int .i64 a0_at, .int .i64 a0_seq, .bool a0_fell] 58, .sl p0_d_safe 9 1 (a0_d_safe.map SR), .sl p0_d_seen 9 1 (a0_d_seen.map SR), .sl p0_d_late 75 2 (a0_d_late.map Twrite.row)] ∧ m26_wal_Log_read_L1 x16 a1 a0_size a0_from a0_d_safe a0_d_seen a0_d_late a0_d_left s23 x12 x6 m gs3 gx4 = some r) ⟨s7, 1, rfl, rfl, h⟩ ⟨rfl, rfl, rfl, rfl, rfl, rfl, rfl, rfl, rfl, trivial⟩ (fun _ hw => hw) ?_)))
       rintro m _ _ ⟨gs3, gx4, rfl, rfl, h⟩
       rcases m with _ | m
       · rw [m26_wal_Log_read_L1] at h; cases h
       rw [m26_wal_Log_read_L1] at h
       generalize hg1 : m26_wal_Log_read_L1 x16 a1 a0_size a0_from a0_d_safe a0_d_seen a0_d_late a0_d_left s23 x12 x6 m = go1 at h
       rw [m26_wal_Log_read_L1B] at h
       refine W.seqJ (fun gs D => gs = [(0, pt pb0 0), (1, .int .i64 a1), (6, pt b1 0), (10, .int .i64 x6), (11, st gs3), (14, .int .i64 x12), (15, .int .i64 x16), (16, .int .i64 gx4), (17, st s23)] ∧ D = Cls w F [.obj pb0_d [p0_d_safe, p0_d_seen, p0_d_late, .int .i64 a0_d_left] 54, .obj b1 [.int .i64 0, st [], .int .i64 0] 62, .obj pb0 [pt pb0_d 0, .int .i64 a0_from, .int .i64 a0_size, .int .i64 a0_epoch, .int .i64 a0_at, .int .i64 a0_seq, .bool a0_fell] 58, .sl p0_d_safe 9 1 (a0_d_safe.map SR), .sl p0_d_seen 9 1 (a0_d_seen.map SR), .sl p0_d_late 75 2 (a0_d_late.map Twrite.row)] ∧ m26_wal_Log_read_K5 a1 gx4 a0_size a0_from a0_d_safe a0_d_seen a0_d_late a0_d_left s23 gs3 go1 = some r) ?_ ?_
       ·
        refine W.seq (W.region (L.y rfl (Y.move rfl) ?_))
        refine L.y rfl (Y.lenS Tryd.underlying9 rfl) ?_
        refine L.y rfl (Y.move rfl) ?_
        refine L.ite h rfl (Y.lss rfl rfl) (fun c38 h => ?_) (fun c38 h => ?_)
        ·
         refine L.nil (E.thenN (W.condT rfl ?_))
         exact W.skip (E.joinJ ⟨rfl, rfl, h⟩ ⟨rfl, rfl, rfl, rfl, rfl, rfl, rfl, rfl, rfl, trivial⟩ (fun _ hw => hw))
        ·
         refine L.nil (E.thenN (W.condF rfl ?_))
         exact W.exit (E.KSX (E.KLX (E.blockX (E.joinJ ⟨gs3, gx4, rfl, rfl, h⟩ ⟨rfl, rfl, rfl, rfl, rfl, rfl, trivial⟩ (fun _ hw => hw)))))
       ·
        rintro _ _ ⟨rfl, rfl, h⟩
        rw [m26_wal_Log_read_K5] at h
        refine W.seq (W.block (W.seqJ (fun gs D => gs = [(0, pt pb0 0), (1, .int .i64 a1), (6, pt b1 0), (10, .int .i64 x6), (11, st gs3), (14, .int .i64 x12), (15, .int .i64 x16), (16, .int .i64 gx4), (17, st s23)] ∧ D = Cls w F [.obj pb0_d [p0_d_safe, p0_d_seen, p0_d_late, .int .i64 a0_d_left] 54, .obj b1 [.int .i64 0, st [], .int .i64 0] 62, .obj pb0 [pt pb0_d 0, .int .i64 a0_from, .int .i64 a0_size, .int .i64 a0_epoch, .int .i64 a0_at, .int .i64 a0_seq, .bool a0_fell] 58, .sl p0_d_safe 9 1 (a0_d_safe.map SR), .sl p0_d_seen 9 1 (a0_d_seen.map SR), .sl p0_d_late 75 2 (a0_d_late.map Twrite.row)] ∧ m26_wal_Log_read_K6 a0_from a1 gx4 a0_d_safe a0_d_seen a0_d_late a0_d_left s23 gs3 go1 = some r) ?_ ?_))
        ·
         refine W.seq (W.region (L.y rfl (Y.move rfl) ?_))
         refine L.y rfl (Y.move rfl) ?_
         refine L.m (V := fun x36 => .int .i64 x36) h rfl (Y.addM rfl rfl) (fun x36 ex36 h => ?_)
         refine L.y rfl (Y.move rfl) ?_
         refine L.y rfl (Y.nilCheck rfl) ?_
         refine L.y rfl (Y.fieldP fd58_2 rfl) ?_
         refine L.y rfl (Y.loadP (i := 2) ag3 rfl rfl rfl) ?_
         refine L.ite h rfl (Y.geq rfl rfl) (fun c37 h => ?_) (fun c37 h => ?_)
         ·
          refine L.nil (E.thenN (W.condT rfl ?_))
          refine W.seq (W.region (L.y rfl (Y.build (cells := #[.int .i64 0, st [], .int .i64 0]) rfl (by kernel_rfl)) ?_))
          refine L.store (i := 1) (vs := [.int .i64 0, st [], .int .i64 0]) sz62 rfl rfl rfl rfl (by simp [Value.oneCell', Value.cells, st, pt, el]) rfl (Nat.le_of_ble_eq_true rfl) ?_
          refine L.y rfl (Y.assign rfl) ?_
          refine L.nil (E.thenN (W.ret (E.KSR (E.blockR (E.thenR (E.KLR (E.blockR (E.KSR (E.retR2 rfl (Rv.cellW (i := 1) ag62 sz62 rfl rfl rfl) (Rv.tmp rfl) (fun w1 hw => ?_))))))))))
          obtain rfl := Option.some.inj h
          exact ⟨_, _, rfl, ⟨rfl, rfl⟩, hw.sel [2, 0, 3, 4, 5] (by decide) rfl⟩
         ·
          refine L.nil (E.thenN (W.condF rfl ?_))
          exact W.skip (E.joinJ ⟨rfl, rfl, h⟩ ⟨rfl, rfl, rfl, rfl, rfl, rfl, rfl, rfl, rfl, trivial⟩ (fun _ hw => hw))
        ·
         rintro _ _ ⟨rfl, rfl, h⟩
         rw [m26_wal_Log_read_K6] at h
         refine W.seq (W.drawn2 (k := 18) (stC [] [] (Cls w F [.obj pb0_d [p0_d_safe, p0_d_seen, p0_d_late, .int .i64 a0_d_left] 54, .obj b1 [.int .i64 0, st [], .int .i64 0] 62, .obj pb0 [pt pb0_d 0, .int .i64 a0_from, .int .i64 a0_size, .int .i64 a0_epoch, .int .i64 a0_at, .int .i64 a0_seq, .bool a0_fell] 58, .sl p0_d_safe 9 1 (a0_d_safe.map SR), .sl p0_d_seen 9 1 (a0_d_seen.map SR), .sl p0_d_late 75 2 (a0_d_late.map Twrite.row)])) rfl mixed (fun _ hw => hw.drew) (Sc.atD (fun _ hw => hw)) ?_)
         refine V2.y (i := 0) (Nx2.of (Z := Cls w F [.obj pb0_d [p0_d_safe, p0_d_seen, p0_d_late, .int .i64 a0_d_left] 54, .obj b1 [.int .i64 0, st [], .int .i64 0] 62, .obj pb0 [pt pb0_d 0, .int .i64 a0_from, .int .i64 a0_size, .int .i64 a0_epoch, .int .i64 a0_at, .int .i64 a0_seq, .bool a0_fell] 58, .sl p0_d_safe 9 1 (a0_d_safe.map SR), .sl p0_d_seen 9 1 (a0_d_seen.map SR), .sl p0_d_late 75 2 (a0_d_late.map Twrite.row)]) [] (by kernel_rfl) rfl (Zc.fin (fun _ hw => hw))) rfl rfl rfl (Y.move rfl) ?_
         refine V2.nilc (i := 1) (Nx2.of (Z := Cls w F [.obj pb0_d [p0_d_safe, p0_d_seen, p0_d_late, .int .i64 a0_d_left] 54, .obj b1 [.int .i64 0, st [], .int .i64 0] 62, .obj pb0 [pt pb0_d 0, .int .i64 a0_from, .int .i64 a0_size, .int .i64 a0_epoch, .int .i64 a0_at, .int .i64 a0_seq, .bool a0_fell] 58, .sl p0_d_safe 9 1 (a0_d_safe.map SR), .sl p0_d_seen 9 1 (a0_d_seen.map SR), .sl p0_d_late 75 2 (a0_d_late.map Twrite.row)]) [] (by kernel_rfl) rfl (Zc.fin (fun _ hw => hw))) rfl rfl rfl ?_
         refine V2.y (i := 2) (Nx2.of (Z := Cls w F [.obj pb0_d [p0_d_safe, p0_d_seen, p0_d_late, .int .i64 a0_d_left] 54, .obj b1 [.int .i64 0, st [], .int .i64 0] 62, .obj pb0 [pt pb0_d 0, .int .i64 a0_from, .int .i64 a0_size, .int .i64 a0_epoch, .int .i64 a0_at, .int .i64 a0_seq, .bool a0_fell] 58, .sl p0_d_safe 9 1 (a0_d_safe.map SR), .sl p0_d_seen 9 1 (a0_d_seen.map SR), .sl p0_d_late 75 2 (a0_d_late.map Twrite.row)]) [] (by kernel_rfl) rfl (Zc.fin (fun _ hw => hw))) rfl rfl rfl (Y.fieldP fd58_0 rfl) ?_
         refine V2.y (i := 3) (Nx2.of (Z := Cls w F [.obj pb0_d [p0_d_safe, p0_d_seen, p0_d_late, .int .i64 a0_d_left] 54, .obj b1 [.int .i64 0, st [], .int .i64 0] 62, .obj pb0 [pt pb0_d 0, .int .i64 a0_from, .int .i64 a0_size, .int .i64 a0_epoch, .int .i64 a0_at, .int .i64 a0_seq, .bool a0_fell] 58, .sl p0_d_safe 9 1 (a0_d_safe.map SR), .sl p0_d_seen 9 1 (a0_d_seen.map SR), .sl p0_d_late 75 2 (a0_d_late.map Twrite.row)]) [] (by kernel_rfl) rfl (Zc.fin (fun _ hw => hw))) rfl rfl rfl (Y.loadP (i := 2) ag23 rfl rfl rfl) ?_
         refine V2.y (i := 4) (Nx2.of (Z := Cls w F [.obj pb0_d [p0_d_safe, p0_d_seen, p0_d_late, .int .i64 a0_d_left] 54, .obj b1 [.int .i64 0, st [], .int .i64 0] 62, .obj pb0 [pt pb0_d 0, .int .i64 a0_from, .int .i64 a0_size, .int .i64 a0_epoch, .int .i64 a0_at, .int .i64 a0_seq, .bool a0_fell] 58, .sl p0_d_safe 9 1 (a0_d_safe.map SR), .sl p0_d_seen 9 1 (a0_d_seen.map SR), .sl p0_d_late 75 2 (a0_d_late.map Twrite.row)]) [] (by kernel_rfl) rfl (Zc.fin (fun _ hw => hw))) rfl rfl rfl (Y.move rfl) ?_
         refine V2.nilc (i := 5) (Nx2.of (Z := Cls w F [.obj pb0_d [p0_d_safe, p0_d_seen, p0_d_late, .int .i64 a0_d_left] 54, .obj b1 [.int .i64 0, st [], .int .i64 0] 62, .obj pb0 [pt pb0_d 0, .int .i64 a0_from, .int .i64 a0_size, .int .i64 a0_epoch, .int .i64 a0_at, .int .i64 a0_seq, .bool a0_fell] 58, .sl p0_d_safe 9 1 (a0_d_safe.map SR), .sl p0_d_seen 9 1 (a0_d_seen.map SR), .sl p0_d_late 75 2 (a0_d_late.map Twrite.row)]) [] (by kernel_rfl) rfl (Zc.fin (fun _ hw => hw))) rfl rfl rfl ?_
         refine V2.y (i := 6) (Nx2.of (Z := Cls w F [.obj pb0_d [p0_d_safe, p0_d_seen, p0_d_late, .int .i64 a0_d_left] 54, .obj b1 [.int .i64 0, st [], .int .i64 0] 62, .obj pb0 [pt pb0_d 0, .int .i64 a0_from, .int .i64 a0_size, .int .i64 a0_epoch, .int .i64 a0_at, .int .i64 a0_seq, .bool a0_fell] 58, .sl p0_d_safe 9 1 (a0_d_safe.map SR), .sl p0_d_seen 9 1 (a0_d_seen.map SR), .sl p0_d_late 75 2 (a0_d_late.map Twrite.row)]) [] (by kernel_rfl) rfl (Zc.fin (fun _ hw => hw))) rfl rfl rfl (Y.fieldP fd58_1 rfl) ?_
         refine V2.y (i := 7) (Nx2.of (Z := Cls w F [.obj pb0_d [p0_d_safe, p0_d_seen, p0_d_late, .int .i64 a0_d_left] 54, .obj b1 [.int .i64 0, st [], .int .i64 0] 62, .obj pb0 [pt pb0_d 0, .int .i64 a0_from, .int .i64 a0_size, .int .i64 a0_epoch, .int .i64 a0_at, .int .i64 a0_seq, .bool a0_fell] 58, .sl p0_d_safe 9 1 (a0_d_safe.map SR), .sl p0_d_seen 9 1 (a0_d_seen.map SR), .sl p0_d_late 75 2 (a0_d_late.map Twrite.row)]) [] (by kernel_rfl) rfl (Zc.fin (fun _ hw => hw))) rfl rfl rfl (Y.loadP (i := 2) ag3 rfl rfl rfl) ?_
         refine V2.y (i := 8) (Nx2.of (Z := Cls w F [.obj pb0_d [p0_d_safe, p0_d_seen, p0_d_late, .int .i64 a0_d_left] 54, .obj b1 [.int .i64 0, st [], .int .i64 0] 62, .obj pb0 [pt pb0_d 0, .int .i64 a0_from, .int .i64 a0_size, .int .i64 a0_epoch, .int .i64 a0_at, .int .i64 a0_seq, .bool a0_fell] 58, .sl p0_d_safe 9 1 (a0_d_safe.map SR), .sl p0_d_seen 9 1 (a0_d_seen.map SR), .sl p0_d_late 75 2 (a0_d_late.map Twrite.row)]) [] (by kernel_rfl) rfl (Zc.fin (fun _ hw => hw))) rfl rfl rfl (Y.move rfl) ?_
         refine V2.m (i := 9) (V' := fun x25 => .int .i64 x25) h (Nx2.of (Z := Cls w F [.obj pb0_d [p0_d_safe, p0_d_seen, p0_d_late, .int .i64 a0_d_left] 54, .obj b1 [.int .i64 0, st [], .int .i64 0] 62, .obj pb0 [pt pb0_d 0, .int .i64 a0_from, .int .i64 a0_size, .int .i64 a0_epoch, .int .i64 a0_at, .int .i64 a0_seq, .bool a0_fell] 58, .sl p0_d_safe 9 1 (a0_d_safe.map SR), .sl p0_d_seen 9 1 (a0_d_seen.map SR), .sl p0_d_late 75 2 (a0_d_late.map Twrite.row)]) [] (by kernel_rfl) rfl (Zc.fin (fun _ hw => hw))) rfl rfl rfl (Y.addM rfl rfl) (fun x25 ex25 h => ?_)
         refine V2.y (i := 10) (Nx2.of (Z := Cls w F [.obj pb0_d [p0_d_safe, p0_d_seen, p0_d_late, .int .i64 a0_d_left] 54, .obj b1 [.int .i64 0, st [], .int .i64 0] 62, .obj pb0 [pt pb0_d 0, .int .i64 a0_from, .int .i64 a0_size, .int .i64 a0_epoch, .int .i64 a0_at, .int .i64 a0_seq, .bool a0_fell] 58, .sl p0_d_safe 9 1 (a0_d_safe.map SR), .sl p0_d_seen 9 1 (a0_d_seen.map SR), .sl p0_d_late 75 2 (a0_d_late.map Twrite.row)]) [] (by kernel_rfl) rfl (Zc.fin (fun _ hw => hw))) rfl rfl rfl (Y.move rfl) ?_
         refine V2.m (i := 11) (V' := fun x26 => .int .i64 x26) h (Nx2.of (Z := Cls w F [.obj pb0_d [p0_d_safe, p0_d_seen, p0_d_late, .int .i64 a0_d_left] 54, .obj b1 [.int .i64 0, st [], .int .i64 0] 62, .obj pb0 [pt pb0_d 0, .int .i64 a0_from, .int .i64 a0_size, .int .i64 a0_epoch, .int .i64 a0_at, .int .i64 a0_seq, .bool a0_fell] 58, .sl p0_d_safe 9 1 (a0_d_safe.map SR), .sl p0_d_seen 9 1 (a0_d_seen.map SR), .sl p0_d_late 75 2 (a0_d_late.map Twrite.row)]) [] (by kernel_rfl) rfl (Zc.fin (fun _ hw => hw))) rfl rfl rfl (Y.addM rfl rfl) (fun x26 ex26 h => ?_)
         refine V2.eff (i := 12) (by kernel_rfl) rfl ?_
         refine L.to (D := Cls w F [.obj pb0_d [p0_d_safe, p0_d_seen, p0_d_late, .int .i64 a0_d_left] 54, .sl p0_d_safe 9 1 (a0_d_safe.map SR), .sl p0_d_seen 9 1 (a0_d_seen.map SR), .sl p0_d_late 75 2 (a0_d_late.map Twrite.row), .obj b1 [.int .i64 0, st [], .int .i64 0] 62, .obj pb0 [pt pb0_d 0, .int .i64 a0_from, .int .i64 a0_size, .int .i64 a0_epoch, .int .i64 a0_at, .int .i64 a0_seq, .bool a0_fell] 58]) (fun _ hw => hw.sel [0, 3, 4, 5, 1, 2] (by decide) rfl) ?_
         obtain ⟨s27, x28, e29, h⟩ := bind2S h
         refine L.doesP (A := [.obj pb0_d [p0_d_safe, p0_d_seen, p0_d_late, .int .i64 a0_d_left] 54, .sl p0_d_safe 9 1 (a0_d_safe.map SR), .sl p0_d_seen 9 1 (a0_d_seen.map SR), .sl p0_d_late 75 2 (a0_d_late.map Twrite.row)]) (M := [.obj b1 [.int .i64 0, st [], .int .i64 0] 62, .obj pb0 [pt pb0_d 0, .int .i64 a0_from, .int .i64 a0_size, .int .i64 a0_epoch, .int .i64 a0_at, .int .i64 a0_seq, .bool a0_fell] 58]) rfl en21 rfl (fun w' hw => w21_sect_Disk_Read a0_d_safe a0_d_seen a0_d_late a0_d_left x26 pb0_d p0_d_safe p0_d_seen p0_d_late w' _ e29 _ hw.lend) ?_
         rintro _ _ ⟨rfl, rfl⟩
         refine L.to (D := Cls w F [.obj pb0_d [p0_d_safe, p0_d_seen, p0_d_late, .int .i64 a0_d_left] 54, .sl p0_d_safe 9 1 (a0_d_safe.map SR), .sl p0_d_seen 9 1 (a0_d_seen.map SR), .sl p0_d_late 75 2 (a0_d_late.map Twrite.row), .obj b1 [.int .i64 0, st [], .int .i64 0] 62, .obj pb0 [pt pb0_d 0, .int .i64 a0_from, .int .i64 a0_size, .int .i64 a0_epoch, .int .i64 a0_at, .int .i64 a0_seq, .bool a0_fell] 58]) (fun _ hw => hw) ?_
         refine L.nil (E.toV2 (stC [] [] (Cls w F [.obj pb0_d [p0_d_safe, p0_d_seen, p0_d_late, .int .i64 a0_d_left] 54, .sl p0_d_safe 9 1 (a0_d_safe.map SR), .sl p0_d_seen 9 1 (a0_d_seen.map SR), .sl p0_d_late 75 2 (a0_d_late.map Twrite.row), .obj b1 [.int .i64 0, st [], .int .i64 0] 62, .obj pb0 [pt pb0_d 0, .int .i64 a0_from, .int .i64 a0_size, .int .i64 a0_epoch, .int .i64 a0_at, .int .i64 a0_seq, .bool a0_fell] 58])) 12 (by kernel_rfl) (Sc.stayD (fun _ hw => hw.sel [0, 4, 5, 1, 2, 3] (by decide) rfl)) (Sc.atD (fun _ hw => hw)) ?_)
         refine V2.y (i := 13) (Nx2.of (Z := Cls w F [.obj pb0_d [p0_d_safe, p0_d_seen, p0_d_late, .int .i64 a0_d_left] 54, .sl p0_d_safe 9 1 (a0_d_safe.map SR), .sl p0_d_seen 9 1 (a0_d_seen.map SR), .sl p0_d_late 75 2 (a0_d_late.map Twrite.row), .obj b1 [.int .i64 0, st [], .int .i64 0] 62, .obj pb0 [pt pb0_d 0, .int .i64 a0_from, .int .i64 a0_size, .int .i64 a0_epoch, .int .i64 a0_at, .int .i64 a0_seq, .bool a0_fell] 58]) [] (by kernel_rfl) rfl (Zc.fin (fun _ hw => hw))) rfl rfl rfl (Y.move rfl) ?_
         refine V2.y (i := 14) (Nx2.of (Z := Cls w F [.obj pb0_d [p0_d_safe, p0_d_seen, p0_d_late, .int .i64 a0_d_left] 54, .sl p0_d_safe 9 1 (a0_d_safe.map SR), .sl p0_d_seen 9 1 (a0_d_seen.map SR), .sl p0_d_late 75 2 (a0_d_late.map Twrite.row), .obj b1 [.int .i64 0, st [], .int .i64 0] 62, .obj pb0 [pt pb0_d 0, .int .i64 a0_from, .int .i64 a0_size, .int .i64 a0_epoch, .int .i64 a0_at, .int .i64 a0_seq, .bool a0_fell] 58]) [] (by kernel_rfl) rfl (Zc.fin (fun _ hw => hw))) rfl rfl rfl (Y.extract rfl rfl) ?_
         refine V2.y (i := 15) (Nx2.of (Z := Cls w F [.obj pb0_d [p0_d_safe, p0_d_seen, p0_d_late, .int .i64 a0_d_left] 54, .sl p0_d_safe 9 1 (a0_d_safe.map SR), .sl p0_d_seen 9 1 (a0_d_seen.map SR), .sl p0_d_late 75 2 (a0_d_late.map Twrite.row), .obj b1 [.int .i64 0, st [], .int .i64 0] 62, .obj pb0 [pt pb0_d 0, .int .i64 a0_from, .int .i64 a0_size, .int .i64 a0_epoch, .int .i64 a0_at, .int .i64 a0_seq, .bool a0_fell] 58]) [] (by kernel_rfl) rfl (Zc.fin (fun _ hw => hw))) rfl rfl rfl (Y.extract rfl rfl) ?_
         refine V2.y (i := 16) (Nx2.of (Z := Cls w F [.obj pb0_d [p0_d_safe, p0_d_seen, p0_d_late, .int .i64 a0_d_left] 54, .sl p0_d_safe 9 1 (a0_d_safe.map SR), .sl p0_d_seen 9 1 (a0_d_seen.map SR), .sl p0_d_late 75 2 (a0_d_late.map Twrite.row), .obj b1 [.int .i64 0, st [], .int .i64 0] 62, .obj pb0 [pt pb0_d 0, .int .i64 a0_from, .int .i64 a0_size, .int .i64 a0_epoch, .int .i64 a0_at, .int .i64 a0_seq, .bool a0_fell] 58]) [] (by kernel_rfl) rfl (Zc.fin (fun _ hw => hw))) rfl rfl rfl (Y.assign rfl) ?_
         refine V2.y (i := 17) (Nx2.of (Z := Cls w F [.obj pb0_d [p0_d_safe, p0_d_seen, p0_d_late, .int .i64 a0_d_left] 54, .sl p0_d_safe 9 1 (a0_d_safe.map SR), .sl p0_d_seen 9 1 (a0_d_seen.map SR), .sl p0_d_late 75 2 (a0_d_late.map Twrite.row), .obj b1 [.int .i64 0, st [], .int .i64 0] 62, .obj pb0 [pt pb0_d 0, .int .i64 a0_from, .int .i64 a0_size, .int .i64 a0_epoch, .int .i64 a0_at, .int .i64 a0_seq, .bool a0_fell] 58]) [] (by kernel_rfl) rfl (Zc.fin (fun _ hw => hw))) rfl rfl rfl (Y.assign rfl) ?_
         refine V2.done (by kernel_rfl) ?_
         refine E.thenN (W.seq (W.seq (W.region (L.y rfl (Y.move rfl) ?_))))
         refine L.ite h rfl (Y.neq rfl rfl) (fun c30 h => ?_) (fun c30 h => ?_)
         ·
          refine L.y rfl (Y.move rfl) ?_
          refine L.pass rfl rfl (by nofun) ?_
          refine L.pass rfl rfl (by nofun) ?_
          refine L.pass rfl rfl (by nofun) ?_
          refine L.pass rfl rfl (by nofun) ?_
          refine L.y rfl (Y.pickT rfl rfl) ?_
          refine L.nil (E.thenN (W.condT rfl ?_))
          refine W.seq (W.region (L.y rfl (Y.build (cells := #[.int .i64 0, st [], .int .i64 0]) rfl (by kernel_rfl)) ?_))
          refine L.store (i := 4) (vs := [.int .i64 0, st [], .int .i64 0]) sz62 rfl rfl rfl rfl (by simp [Value.oneCell', Value.cells, st, pt, el]) rfl (Nat.le_of_ble_eq_true rfl) ?_
          refine L.y rfl (Y.assign rfl) ?_
          refine L.nil (E.thenN (W.ret (E.thenR (E.blockR (E.thenR (E.KLR (E.blockR (E.KSR (E.retR2 rfl (Rv.cellW (i := 4) ag62 sz62 rfl rfl rfl) (Rv.tmp rfl) (fun w1 hw => ?_))))))))))
          obtain rfl := Option.some.inj h
          exact ⟨_, _, rfl, ⟨rfl, rfl⟩, hw.sel [5, 0, 1, 2, 3] (by decide) rfl⟩
         ·
          refine L.y rfl (Y.move rfl) ?_
          refine L.take rfl (L.y rfl (Y.move rfl) ?_)
          refine L.take rfl (L.y rfl (Y.move rfl) ?_)
          refine L.take rfl ?_
          obtain ⟨b31, e32, h⟩ := bind1S h
          refine L.y rfl (Y.does en44 rfl (fun w' hw => (w44_strings_HasPrefix s27 s23 w' _ e32).mono (fun _ _ h => h.1))) ?_
          rcases b31 with _ | _
          ·
           replace h := iteF h
           refine L.take rfl (L.y rfl (Y.not rfl) ?_)
           refine L.y rfl (Y.pickF rfl rfl) ?_
           refine L.nil (E.thenN (W.condT rfl ?_))
           refine W.seq (W.region (L.y rfl (Y.build (cells := #[.int .i64 0, st [], .int .i64 0]) rfl (by kernel_rfl)) ?_))
           refine L.store (i := 4) (vs := [.int .i64 0, st [], .int .i64 0]) sz62 rfl rfl rfl rfl (by simp [Value.oneCell', Value.cells, st, pt, el]) rfl (Nat.le_of_ble_eq_true rfl) ?_
           refine L.y rfl (Y.assign rfl) ?_
           refine L.nil (E.thenN (W.ret (E.thenR (E.blockR (E.thenR (E.KLR (E.blockR (E.KSR (E.retR2 rfl (Rv.cellW (i := 4) ag62 sz62 rfl rfl rfl) (Rv.tmp rfl) (fun w1 hw => ?_))))))))))
           obtain rfl := Option.some.inj h
           exact ⟨_, _, rfl, ⟨rfl, rfl⟩, hw.sel [5, 0, 1, 2, 3] (by decide) rfl⟩
          ·
           replace h := iteT h
           refine L.take rfl (L.y rfl (Y.not rfl) ?_)
           refine L.y rfl (Y.pickF rfl rfl) ?_
           refine L.nil (E.thenN (W.condF rfl ?_))
           refine W.skip (E.thenN (W.region (L.y rfl (Y.move rfl) ?_)))
           refine L.y rfl (Y.move rfl) ?_
           refine L.y rfl (Y.move rfl) ?_
           refine L.y rfl (Y.lenS Tryd.underlying9 rfl) ?_
           refine L.m (V := fun s33 => st s33) h rfl (Y.sliceSL Tryd.underlying9 rfl rfl) (fun s33 es33 h => ?_)
           refine L.m (V := fun s34 => st s34) h rfl (Y.catM rfl rfl) (fun s34 es34 h => ?_)
           refine L.y rfl (Y.assign rfl) ?_
           refine L.nil (E.blockN (E.thenN (W.region (L.y rfl (Y.move rfl) ?_))))
           refine L.m (V := fun x35 => .int .i64 x35) h rfl (Y.addM rfl rfl) (fun x35 ex35 h => ?_)
           refine L.y rfl (Y.assign rfl) ?_
           exact L.nil (E.againJ ⟨s34, x35, rfl, rfl, by rw [hg1]; exact h⟩ (Nat.lt_succ_self _) ⟨rfl, rfl, rfl, rfl, rfl, rfl, rfl, rfl, rfl, trivial⟩ (fun _ hw => hw.sel [0, 4, 5, 1, 2, 3] (by decide) rfl))
      ·
       rintro _ _ ⟨gs1, gx2, rfl, rfl, h⟩
       rw [m26_wal_Log_read_K4] at h
       refine W.seq (W.region (L.y rfl (Y.move rfl) ?_))
       refine L.y rfl (Y.move rfl) ?_
       refine L.m (V := fun s17 => st s17) h rfl (Y.sliceSH Tryd.underlying9 rfl rfl) (fun s17 es17 h => ?_)
       obtain ⟨s18, x19, e20, h⟩ := bind2S h
       refine L.y rfl (Y.does en55 rfl (fun w' hw => (w55_fold_Get s17 w' _ e20).mono (fun _ _ h => h.1))) ?_
       refine L.y rfl (Y.move rfl) ?_
       refine L.y rfl (Y.extract rfl rfl) ?_
       refine L.y rfl (Y.extract rfl rfl) ?_
       refine L.y rfl (Y.assign rfl) ?_
       refine L.y rfl (Y.assign rfl) ?_
       refine L.nil (E.thenN (W.seq (W.seq (W.region (L.y rfl (Y.move rfl) ?_)))))
       refine L.ite h rfl (Y.neq rfl rfl) (fun c21 h => ?_) (fun c21 h => ?_)
       ·
        refine L.nil (E.thenN (W.condT rfl ?_))
        refine W.seq (W.region (L.y rfl (Y.build (cells := #[.int .i64 0, st [], .int .i64 0]) rfl (by kernel_rfl)) ?_))
        refine L.store (i := 1) (vs := [.int .i64 0, st [], .int .i64 0]) sz62 rfl rfl rfl rfl (by simp [Value.oneCell', Value.cells, st, pt, el]) rfl (Nat.le_of_ble_eq_true rfl) ?_
        refine L.y rfl (Y.assign rfl) ?_
        refine L.nil (E.thenN (W.ret (E.thenR (E.retR2 rfl (Rv.cellW (i := 1) ag62 sz62 rfl rfl rfl) (Rv.tmp rfl) (fun w1 hw => ?_)))))
        obtain rfl := Option.some.inj h
        exact ⟨_, _, rfl, ⟨rfl, rfl⟩, hw.sel [2, 0, 3, 4, 5] (by decide) rfl⟩
       ·
        refine L.nil (E.thenN (W.condF rfl ?_))
        refine W.skip (E.thenN (W.seq (W.region (L.y rfl (Y.move rfl) ?_))))
        refine L.y rfl (Y.move rfl) ?_
        refine L.y rfl (Y.move rfl) ?_
        refine L.m (V := fun s22 => st s22) h rfl (Y.sliceSL Tryd.underlying9 rfl rfl) (fun s22 es22 h => ?_)
        refine L.y rfl (Y.move rfl) ?_
        refine L.y rfl (Y.build (cells := #[.int .i64 x6, st s22, .int .i64 gx2]) rfl (by kernel_rfl)) ?_
        refine L.store (i := 1) (vs := [.int .i64 x6, st s22, .int .i64 gx2]) sz62 rfl rfl rfl rfl (by simp [Value.oneCell', Value.cells, st, pt, el]) rfl (Nat.le_of_ble_eq_true rfl) ?_
        refine L.y rfl (Y.assign rfl) ?_
        refine L.nil (E.thenN (W.ret (E.retR2 rfl (Rv.cellW (i := 1) ag62 sz62 rfl rfl rfl) (Rv.tmp rfl) (fun w1 hw => ?_))))
        obtain rfl := Option.some.inj h
        exact ⟨_, _, rfl, ⟨rfl, rfl⟩, hw.sel [2, 0, 3, 4, 5] (by decide) rfl⟩
    ·
     refine L.y rfl (Y.assign rfl) ?_
     refine L.y rfl (Y.assign rfl) ?_
     refine L.y rfl (Y.assign rfl) ?_
     refine L.nil (E.thenN (W.seq (W.seq (W.region (L.y rfl (Y.move rfl) ?_)))))
     refine L.y rfl (Y.not rfl) ?_
     refine L.nil (E.thenN (W.condT rfl ?_))
     refine W.seq (W.region (L.y rfl (Y.build (cells := #[.int .i64 0, st [], .int .i64 0]) rfl (by kernel_rfl)) ?_))
     refine L.store (i := 1) (vs := [.int .i64 0, st [], .int .i64 0]) sz62 rfl rfl rfl rfl (by simp [Value.oneCell', Value.cells, st, pt, el]) rfl (Nat.le_of_ble_eq_true rfl) ?_
     refine L.y rfl (Y.assign rfl) ?_
     refine L.nil (E.thenN (W.ret (E.thenR (E.retR2 rfl (Rv.cellW (i := 1) ag62 sz62 rfl rfl rfl) (Rv.tmp rfl) (fun w1 hw => ?_)))))
     obtain rfl := Option.some.inj h
     exact ⟨_, _, rfl, ⟨rfl, rfl⟩, hw.sel [2, 0, 3, 4, 5] (by decide) rfl⟩
set_option maxRecDepth 100000 in
set_option maxHeartbeats 8000000 in
theorem w33_sect_Disk_Write (a0_safe : (List (List UInt8))) (a0_seen : (List (List UInt8))) (a0_late : (List Twrite)) (a0_left : Int) (a1 : Int) (a2 : (List UInt8)) (pb0 : Nat) (p0_safe : Value) (p0_seen : Value) (p0_late : Value) (w : World) (r : ((List (List UInt8)) × (List Twrite) × Int × Int)) (h : m33_sect_Disk_Write a0_safe a0_seen a0_late a0_left a1 a2 = some r) (F : List Nat) (hc0 : Cls w F [.obj pb0 [p0_safe, p0_seen, p0_late, .int .i64 a0_left] 54, .sl p0_safe 9 1 (a0_safe.map SR), .sl p0_seen 9 1 (a0_seen.map SR), .sl p0_late 75 2 (a0_late.map Twrite.row)] w) : DoesF Tryd.prog 33 [pt pb0 0, .int .i64 a1, st a2] F w fun u m => ∃ y1 y2, u = .int .i64 r.2.2.2 ∧ m = [.obj pb0 [p0_safe, y1, y2, .int .i64 r.2.2.1] 54, .sl p0_safe 9 1 (a0_safe.map SR), .sl y1 9 1 (r.1.map SR), .sl y2 75 2 (r.2.1.map Twrite.row)] := by
  rw [m33_sect_Disk_Write] at h
  refine body (n := 52) Tryd.func33 rfl rfl rfl hc0 ?_
  refine W.seq (W.region (L.y rfl (Y.assign rfl) ?_))
  refine L.nil (E.thenN (W.seqJ (fun gs D => gs = [(0, pt pb0 0), (1, .int .i64 a1), (2, st a2)] ∧ D = Cls w F [.obj pb0 [p0_safe, p0_seen, p0_late, .int .i64 a0_left] 54, .sl p0_safe 9 1 (a0_safe.map SR), .sl p0_seen 9 1 (a0_seen.map SR), .sl p0_late 75 2 (a0_late.map Twrite.row)] ∧ m33_sect_Disk_Write_K1 a2 a0_seen a0_late a0_left a1 = some r) ?_ ?_))
  ·
   refine W.seq (W.region (L.y rfl (Y.move rfl) ?_))
   refine L.ite h rfl (Y.lss rfl rfl) (fun c15 h => ?_) (fun c15 h => ?_)
   ·
    refine L.y rfl (Y.move rfl) ?_
    refine L.pass rfl rfl (by nofun) ?_
    refine L.pass rfl rfl (by nofun) ?_
    refine L.pass rfl rfl (by nofun) ?_
    refine L.pass rfl rfl (by nofun) ?_
    refine L.pass rfl rfl (by nofun) ?_
    refine L.pass rfl rfl (by nofun) ?_
    refine L.pass rfl rfl (by nofun) ?_
    refine L.y rfl (Y.pickT rfl rfl) ?_
    refine L.nil (E.thenN (W.condT rfl ?_))
    refine W.seq (W.region (L.y rfl (Y.assign rfl) ?_))
    refine L.nil (E.thenN (W.ret (E.KSR (E.ret1 rfl rfl (fun w1 hw => ?_)))))
    obtain rfl := Option.some.inj h
    exact ⟨_, _, rfl, ⟨_, _, rfl, rfl⟩, hw⟩
   ·
    refine L.y rfl (Y.move rfl) ?_
    refine L.take rfl (L.y rfl (Y.move rfl) ?_)
    refine L.take rfl (L.y rfl (Y.move rfl) ?_)
    refine L.take rfl (L.y rfl (Y.nilCheck rfl) ?_)
    refine L.take rfl (L.y rfl (Y.fieldP fd54_0 rfl) ?_)
    refine L.take rfl (L.y rfl (Y.loadP (i := 0) ag30 rfl rfl rfl) ?_)
    refine L.take rfl (L.y rfl (Y.lenM (g := SR) (l := a0_safe) Tryd.underlying30 rfl (fun w hw => As.at_ (hw.get (i := 1) rfl))) ?_)
    refine L.take rfl (L.ite h rfl (Y.geq rfl rfl) (fun c16 h => ?_) (fun c16 h => ?_))
    ·
     refine L.y rfl (Y.pickF rfl rfl) ?_
     refine L.nil (E.thenN (W.condT rfl ?_))
     refine W.seq (W.region (L.y rfl (Y.assign rfl) ?_))
     refine L.nil (E.thenN (W.ret (E.KSR (E.ret1 rfl rfl (fun w1 hw => ?_)))))
     obtain rfl := Option.some.inj h
     exact ⟨_, _, rfl, ⟨_, _, rfl, rfl⟩, hw⟩
    ·
     refine L.y rfl (Y.pickF rfl rfl) ?_
     refine L.nil (E.thenN (W.condF rfl ?_))
     exact W.skip (E.joinJ ⟨rfl, rfl, h⟩ ⟨rfl, rfl, rfl, trivial⟩ (fun _ hw => hw))
  ·
   rintro _ _ ⟨rfl, rfl, h⟩
   rw [m33_sect_Disk_Write_K1] at h
   refine W.seqJ (fun gs D => gs = [(0, pt pb0 0), (1, .int .i64 a1), (2, st a2)] ∧ D = Cls w F [.obj pb0 [p0_safe, p0_seen, p0_late, .int .i64 a0_left] 54, .sl p0_safe 9 1 (a0_safe.map SR), .sl p0_seen 9 1 (a0_seen.map SR), .sl p0_late 75 2 (a0_late.map Twrite.row)] ∧ m33_sect_Disk_Write_K2 a0_left a0_seen a0_late a2 a1 = some r) ?_ ?_
   ·
    refine W.seq (W.region (L.y rfl (Y.move rfl) ?_))
    refine L.y rfl (Y.lenS Tryd.underlying9 rfl) ?_
    refine L.ite h rfl (Y.gtr rfl rfl) (fun c14 h => ?_) (fun c14 h => ?_)
    ·
     refine L.nil (E.thenN (W.condT rfl ?_))
     refine W.seq (W.region (L.y rfl (Y.assign rfl) ?_))
     refine L.nil (E.thenN (W.ret (E.KSR (E.ret1 rfl rfl (fun w1 hw => ?_)))))
     obtain rfl := Option.some.inj h
     exact ⟨_, _, rfl, ⟨_, _, rfl, rfl⟩, hw⟩
    ·
     refine L.nil (E.thenN (W.condF rfl ?_))
     exact W.skip (E.joinJ ⟨rfl, rfl, h⟩ ⟨rfl, rfl, rfl, trivial⟩ (fun _ hw => hw))
   ·
    rintro _ _ ⟨rfl, rfl, h⟩
    rw [m33_sect_Disk_Write_K2] at h
    refine W.seqJ (fun gs D => ∃ (gx1 : Int), gs = [(0, pt pb0 0), (1, .int .i64 a1), (2, st a2)] ∧ D = Cls w F [.obj pb0 [p0_safe, p0_seen, p0_late, .int .i64 gx1] 54, .sl p0_safe 9 1 (a0_safe.map SR), .sl p0_seen 9 1 (a0_seen.map SR), .sl p0_late 75 2 (a0_late.map Twrite.row)] ∧ m33_sect_Disk_Write_K3 a2 a0_seen a1 a0_late gx1 = some r) ?_ ?_
    ·
     refine W.seq (W.region (L.y rfl (Y.move rfl) ?_))
     refine L.callJ (fun v D => ∃ (gx2 : Int) (gx3 : Int), v = .int .i64 gx2 ∧ D = Cls w F [.obj pb0 [p0_safe, p0_seen, p0_late, .int .i64 gx3] 54, .sl p0_safe 9 1 (a0_safe.map SR), .sl p0_seen 9 1 (a0_seen.map SR), .sl p0_late 75 2 (a0_late.map Twrite.row)] ∧ m33_sect_Disk_Write_K4 a0_seen a0_late a2 a1 gx2 gx3 = some r) rfl en63 rfl Tryd.func63 rfl rfl rfl ?_ ?_
     ·
      refine W.seq (W.region (L.y rfl (Y.assign rfl) ?_))
      refine L.nil (E.thenN (W.seqJ (fun gs D => gs = [(0, pt pb0 0)] ∧ D = Cls w F [.obj pb0 [p0_safe, p0_seen, p0_late, .int .i64 a0_left] 54, .sl p0_safe 9 1 (a0_safe.map SR), .sl p0_seen 9 1 (a0_seen.map SR), .sl p0_late 75 2 (a0_late.map Twrite.row)] ∧ m33_sect_Disk_Write_K5 a0_left a0_seen a0_late a2 a1 = some r) ?_ ?_))
      ·
       refine W.seq (W.region (L.y rfl (Y.move rfl) ?_))
       refine L.y rfl (Y.nilCheck rfl) ?_
       refine L.y rfl (Y.fieldP fd54_3 rfl) ?_
       refine L.y rfl (Y.loadP (i := 0) ag3 rfl rfl rfl) ?_
       refine L.ite h rfl (Y.eql rfl rfl) (fun c13 h => ?_) (fun c13 h => ?_)
       ·
        refine L.nil (E.thenN (W.condT rfl ?_))
        refine W.seq (W.region (L.y rfl (Y.assign rfl) ?_))
        refine L.nil (E.thenN (W.ret (E.KSR (E.ret1 rfl rfl (fun w1 hw => ?_)))))
        exact ⟨_, _, rfl, ⟨13, a0_left, rfl, rfl, h⟩, hw⟩
       ·
        refine L.nil (E.thenN (W.condF rfl ?_))
        exact W.skip (E.joinJ ⟨rfl, rfl, h⟩ ⟨rfl, trivial⟩ (fun _ hw => hw))
      ·
       rintro _ _ ⟨rfl, rfl, h⟩
       rw [m33_sect_Disk_Write_K5] at h
       refine W.seq (W.seq (W.region (L.y rfl (Y.move rfl) ?_)))
       refine L.y rfl (Y.nilCheck rfl) ?_
       refine L.y rfl (Y.fieldP fd54_3 rfl) ?_
       refine L.y rfl (Y.loadP (i := 0) ag3 rfl rfl rfl) ?_
       refine L.ite h rfl (Y.gtr rfl rfl) (fun c11 h => ?_) (fun c11 h => ?_)
       ·
        refine L.nil (E.thenN (W.condT rfl ?_))
        refine W.region (L.y rfl (Y.move rfl) ?_)
        refine L.y rfl (Y.nilCheck rfl) ?_
        refine L.y rfl (Y.fieldP fd54_3 rfl) ?_
        refine L.y rfl (Y.loadP (i := 0) ag3 rfl rfl rfl) ?_
        refine L.m (V := fun x12 => .int .i64 x12) h rfl (Y.subM rfl rfl) (fun x12 ex12 h => ?_)
        refine L.y rfl (Y.nilCheck rfl) ?_
        refine L.y rfl (Y.fieldP fd54_3 rfl) ?_
        refine L.store (i := 0) (vs := [.int .i64 x12]) sz3 rfl rfl rfl rfl (by simp [Value.oneCell', Value.cells, st, pt, el]) rfl (Nat.le_of_ble_eq_true rfl) ?_
        refine L.nil (E.thenN (W.seq (W.region (L.y rfl (Y.assign rfl) ?_))))
        refine L.nil (E.thenN (W.ret (E.ret1 rfl rfl (fun w1 hw => ?_))))
        exact ⟨_, _, rfl, ⟨0, x12, rfl, rfl, h⟩, hw⟩
       ·
        refine L.nil (E.thenN (W.condF rfl ?_))
        refine W.skip (E.thenN (W.seq (W.region (L.y rfl (Y.assign rfl) ?_))))
        refine L.nil (E.thenN (W.ret (E.ret1 rfl rfl (fun w1 hw => ?_))))
        exact ⟨_, _, rfl, ⟨0, a0_left, rfl, rfl, h⟩, hw⟩
     ·
      rintro _ _ ⟨gx2, gx3, rfl, rfl, h⟩
      rw [m33_sect_Disk_Write_K4] at h
      refine L.y rfl (Y.assign rfl) ?_
      refine L.nil (E.thenN (W.seq (W.region (L.y rfl (Y.move rfl) ?_))))
      refine L.ite h rfl (Y.neq rfl rfl) (fun c10 h => ?_) (fun c10 h => ?_)
      ·
       refine L.nil (E.thenN (W.condT rfl ?_))
       refine W.seq (W.region (L.y rfl (Y.move rfl) ?_))
       refine L.y rfl (Y.assign rfl) ?_
       refine L.nil (E.thenN (W.ret (E.KSR (E.ret1 rfl rfl (fun w1 hw => ?_)))))
       obtain rfl := Option.some.inj h
       exact ⟨_, _, rfl, ⟨_, _, rfl, rfl⟩, hw⟩
      ·
       refine L.nil (E.thenN (W.condF rfl ?_))
       exact W.skip (E.joinJ ⟨gx3, rfl, rfl, h⟩ ⟨rfl, rfl, rfl, trivial⟩ (fun _ hw => hw))
    ·
     rintro _ _ ⟨gx1, rfl, rfl, h⟩
     rw [m33_sect_Disk_Write_K3] at h
     refine W.seq (W.region (L.y rfl (Y.move rfl) ?_))
     refine L.y rfl (Y.move rfl) ?_
     refine L.y rfl (Y.lenS Tryd.underlying9 rfl) ?_
     refine L.m (V := fun x1 => .int .i64 x1) h rfl (Y.subM rfl rfl) (fun x1 ex1 h => ?_)
     obtain ⟨s2, e3, h⟩ := bind1S h
     refine L.y rfl (Y.does en22 rfl (fun w' hw => (wRepeat ([0]) x1 w' _ e3).mono (fun _ _ h => h.1))) ?_
     refine L.m (V := fun s4 => st s4) h rfl (Y.catM rfl rfl) (fun s4 es4 h => ?_)
     refine L.y rfl (Y.assign rfl) ?_
     refine L.nil (E.thenN (W.seq (W.region (L.y rfl (Y.move rfl) ?_))))
     refine L.y rfl (Y.nilCheck rfl) ?_
     refine L.y rfl (Y.fieldP fd54_1 rfl) ?_
     refine L.y rfl (Y.loadP (i := 0) ag30 rfl rfl rfl) ?_
     refine L.y rfl (Y.move rfl) ?_
     refine L.y rfl (Y.move rfl) ?_
     refine L.m (V := fun _ => el p0_seen (a1.toNat * 1)) h rfl (Y.indexM (g := SR) (l := a0_seen) Tryd.underlying30 sz9 rfl rfl (fun w hw => As.at_ (hw.get (i := 2) rfl))) (fun x5 ex5 h => ?_)
     refine L.storeSlM (q := 2) (row := SR) (vs := [st s4]) (j := 0) (u1 := s4) h sz9 rfl rfl rfl rfl rfl (all1 rfl all0) rfl ex5 rfl rfl ?_
     intro l6 el6 h
     refine L.nil (E.thenN (W.seq (W.region (L.y rfl (Y.move rfl) ?_))))
     refine L.y rfl (Y.move rfl) ?_
     refine L.y rfl (Y.nilCheck rfl) ?_
     refine L.y rfl (Y.fieldP fd54_2 rfl) ?_
     refine L.y rfl (Y.loadP (i := 0) ag52 rfl rfl rfl) ?_
     refine L.y rfl (Y.move rfl) ?_
     refine L.y rfl (Y.move rfl) ?_
     refine L.y rfl (Y.build (cells := #[.int .i64 a1, st s4]) rfl (by kernel_rfl)) ?_
     refine L.litAgg rfl Tryd.underlying52 eL75 rfl rfl rfl ?_
     intro b7
     refine L.appM (i := 4) (g := Twrite.row) (l := a0_late) (more := [(⟨a1, s4⟩ : Twrite)]) h rfl Tryd.underlying52 eL75 rfl rfl rfl (fun w hw => As.at_ (hw.get (i := 0) rfl)) (plain_Twrite _) rfl ?_
     intro v8 l9 el9 h
     refine L.y rfl (Y.nilCheck rfl) ?_
     refine L.y rfl (Y.fieldP fd54_2 rfl) ?_
     refine L.storeV (i := 2) sz52 rfl rfl (fun _ hw => (As.at_ (hw.get (i := 0) rfl)).one) rfl (Nat.le_of_ble_eq_true rfl) ?_
     refine L.nil (E.thenN (W.seq (W.region (L.y rfl (Y.assign rfl) ?_))))
     refine L.nil (E.thenN (W.ret (E.ret1 rfl rfl (fun w1 hw => ?_))))
     obtain rfl := Option.some.inj h
     exact ⟨_, _, rfl, ⟨_, _, rfl, rfl⟩, hw.sel [2, 3, 4, 0] (by decide) rfl⟩
set_option maxRecDepth 100000 in
set_option maxHeartbeats 8000000 in
theorem w38_sect_Disk_Flush (a0_safe : (List (List UInt8))) (a0_seen : (List (List UInt8))) (a0_late : (List Twrite)) (a0_left : Int) (pb0 : Nat) (p0_safe : Value) (p0_seen : Value) (p0_late : Value) (w : World) (r : ((List (List UInt8)) × (List (List UInt8)) × (List Twrite) × Int × Int)) (h : m38_sect_Disk_Flush a0_safe a0_seen a0_late a0_left = some r) (F : List Nat) (hc0 : Cls w F [.obj pb0 [p0_safe, p0_seen, p0_late, .int .i64 a0_left] 54, .sl p0_safe 9 1 (a0_safe.map SR), .sl p0_seen 9 1 (a0_seen.map SR), .sl p0_late 75 2 (a0_late.map Twrite.row)] w) : DoesF Tryd.prog 38 [pt pb0 0] F w fun u m => ∃ y1 y2 y3, u = .int .i64 r.2.2.2.2 ∧ m = [.obj pb0 [y1, y2, y3, .int .i64 r.2.2.2.1] 54, .sl y1 9 1 (r.1.map SR), .sl y2 9 1 (r.2.1.map SR), .sl y3 75 2 (r.2.2.1.map Twrite.row)] := by
  rw [m38_sect_Disk_Flush] at h
  refine body (n := 21) Tryd.func38 rfl rfl rfl hc0 ?_
  refine W.seq (W.region (L.y rfl (Y.assign rfl) ?_))
  refine L.nil (E.thenN (W.seqJ (fun gs D => ∃ (gx1 : Int), gs = [(0, pt pb0 0)] ∧ D = Cls w F [.obj pb0 [p0_safe, p0_seen, p0_late, .int .i64 gx1] 54, .sl p0_safe 9 1 (a0_safe.map SR), .sl p0_seen 9 1 (a0_seen.map SR), .sl p0_late 75 2 (a0_late.map Twrite.row)] ∧ m38_sect_Disk_Flush_K1 a0_safe a0_seen gx1 = some r) ?_ ?_))
  ·
   refine W.seq (W.region (L.y rfl (Y.move rfl) ?_))
   refine L.callJ (fun v D => ∃ (gx2 : Int) (gx3 : Int), v = .int .i64 gx2 ∧ D = Cls w F [.obj pb0 [p0_safe, p0_seen, p0_late, .int .i64 gx3] 54, .sl p0_safe 9 1 (a0_safe.map SR), .sl p0_seen 9 1 (a0_seen.map SR), .sl p0_late 75 2 (a0_late.map Twrite.row)] ∧ m38_sect_Disk_Flush_K2 a0_safe a0_seen a0_late gx2 gx3 = some r) rfl en63 rfl Tryd.func63 rfl rfl rfl ?_ ?_
   ·
    refine W.seq (W.region (L.y rfl (Y.assign rfl) ?_))
    refine L.nil (E.thenN (W.seqJ (fun gs D => gs = [(0, pt pb0 0)] ∧ D = Cls w F [.obj pb0 [p0_safe, p0_seen, p0_late, .int .i64 a0_left] 54, .sl p0_safe 9 1 (a0_safe.map SR), .sl p0_seen 9 1 (a0_seen.map SR), .sl p0_late 75 2 (a0_late.map Twrite.row)] ∧ m38_sect_Disk_Flush_K3 a0_left a0_safe a0_seen a0_late = some r) ?_ ?_))
    ·
     refine W.seq (W.region (L.y rfl (Y.move rfl) ?_))
     refine L.y rfl (Y.nilCheck rfl) ?_
     refine L.y rfl (Y.fieldP fd54_3 rfl) ?_
     refine L.y rfl (Y.loadP (i := 0) ag3 rfl rfl rfl) ?_
     refine L.ite h rfl (Y.eql rfl rfl) (fun c4 h => ?_) (fun c4 h => ?_)
     ·
      refine L.nil (E.thenN (W.condT rfl ?_))
      refine W.seq (W.region (L.y rfl (Y.assign rfl) ?_))
      refine L.nil (E.thenN (W.ret (E.KSR (E.ret1 rfl rfl (fun w1 hw => ?_)))))
      exact ⟨_, _, rfl, ⟨13, a0_left, rfl, rfl, h⟩, hw⟩
     ·
      refine L.nil (E.thenN (W.condF rfl ?_))
      exact W.skip (E.joinJ ⟨rfl, rfl, h⟩ ⟨rfl, trivial⟩ (fun _ hw => hw))
    ·
     rintro _ _ ⟨rfl, rfl, h⟩
     rw [m38_sect_Disk_Flush_K3] at h
     refine W.seq (W.seq (W.region (L.y rfl (Y.move rfl) ?_)))
     refine L.y rfl (Y.nilCheck rfl) ?_
     refine L.y rfl (Y.fieldP fd54_3 rfl) ?_
     refine L.y rfl (Y.loadP (i := 0) ag3 rfl rfl rfl) ?_
     refine L.ite h rfl (Y.gtr rfl rfl) (fun c2 h => ?_) (fun c2 h => ?_)
     ·
      refine L.nil (E.thenN (W.condT rfl ?_))
      refine W.region (L.y rfl (Y.move rfl) ?_)
      refine L.y rfl (Y.nilCheck rfl) ?_
      refine L.y rfl (Y.fieldP fd54_3 rfl) ?_
      refine L.y rfl (Y.loadP (i := 0) ag3 rfl rfl rfl) ?_
      refine L.m (V := fun x3 => .int .i64 x3) h rfl (Y.subM rfl rfl) (fun x3 ex3 h => ?_)
      refine L.y rfl (Y.nilCheck rfl) ?_
      refine L.y rfl (Y.fieldP fd54_3 rfl) ?_
      refine L.store (i := 0) (vs := [.int .i64 x3]) sz3 rfl rfl rfl rfl (by simp [Value.oneCell', Value.cells, st, pt, el]) rfl (Nat.le_of_ble_eq_true rfl) ?_
      refine L.nil (E.thenN (W.seq (W.region (L.y rfl (Y.assign rfl) ?_))))
      refine L.nil (E.thenN (W.ret (E.ret1 rfl rfl (fun w1 hw => ?_))))
      exact ⟨_, _, rfl, ⟨0, x3, rfl, rfl, h⟩, hw⟩
     ·
      refine L.nil (E.thenN (W.condF rfl ?_))
      refine W.skip (E.thenN (W.seq (W.region (L.y rfl (Y.assign rfl) ?_))))
      refine L.nil (E.thenN (W.ret (E.ret1 rfl rfl (fun w1 hw => ?_))))
      exact ⟨_, _, rfl, ⟨0, a0_left, rfl, rfl, h⟩, hw⟩
   ·
    rintro _ _ ⟨gx2, gx3, rfl, rfl, h⟩
    rw [m38_sect_Disk_Flush_K2] at h
    refine L.y rfl (Y.assign rfl) ?_
    refine L.nil (E.thenN (W.seq (W.region (L.y rfl (Y.move rfl) ?_))))
    refine L.ite h rfl (Y.neq rfl rfl) (fun c1 h => ?_) (fun c1 h => ?_)
    ·
     refine L.nil (E.thenN (W.condT rfl ?_))
     refine W.seq (W.region (L.y rfl (Y.move rfl) ?_))
     refine L.y rfl (Y.assign rfl) ?_
     refine L.nil (E.thenN (W.ret (E.KSR (E.ret1 rfl rfl (fun w1 hw => ?_)))))
     obtain rfl := Option.some.inj h
     exact ⟨_, _, rfl, ⟨_, _, _, rfl, rfl⟩, hw⟩
    ·
     refine L.nil (E.thenN (W.condF rfl ?_))
     exact W.skip (E.joinJ ⟨gx3, rfl, rfl, h⟩ ⟨rfl, trivial⟩ (fun _ hw => hw))
  ·
   rintro _ _ ⟨gx1, rfl, rfl, h⟩
   rw [m38_sect_Disk_Flush_K1] at h
   refine W.seq (W.drawn2 (k := 9) (stC [[8]] [Cls w F [.obj pb0 [p0_safe, p0_seen, p0_late, .int .i64 gx1] 54, .sl p0_safe 9 1 (a0_safe.map SR), .sl p0_seen 9 1 (a0_seen.map SR), .sl p0_late 75 2 (a0_late.map Twrite.row)]] (Cls w F [.obj pb0 [p0_safe, p0_seen, p0_late, .int .i64 gx1] 54, .sl p0_seen 9 1 (a0_seen.map SR), .sl p0_late 75 2 (a0_late.map Twrite.row)])) rfl mixed (fun _ hw => hw.drew) (Sc.now (by kernel_rfl) (fun _ hw => hw)) ?_)
   refine V2.y (i := 0) (Nx2.of (Z := Cls w F [.obj pb0 [p0_safe, p0_seen, p0_late, .int .i64 gx1] 54, .sl p0_seen 9 1 (a0_seen.map SR), .sl p0_late 75 2 (a0_late.map Twrite.row)]) [] (by kernel_rfl) rfl (Zc.on (fun _ hw => hw.sel [0, 2, 3] (by decide) rfl) (Zc.fin (fun _ hw => hw)))) rfl rfl rfl (Y.move rfl) ?_
   refine V2.nilc (i := 1) (Nx2.of (Z := Cls w F [.obj pb0 [p0_safe, p0_seen, p0_late, .int .i64 gx1] 54, .sl p0_seen 9 1 (a0_seen.map SR), .sl p0_late 75 2 (a0_late.map Twrite.row)]) [] (by kernel_rfl) rfl (Zc.on (fun _ hw => hw.sel [0, 2, 3] (by decide) rfl) (Zc.fin (fun _ hw => hw)))) rfl rfl rfl ?_
   refine V2.y (i := 2) (Nx2.of (Z := Cls w F [.obj pb0 [p0_safe, p0_seen, p0_late, .int .i64 gx1] 54, .sl p0_seen 9 1 (a0_seen.map SR), .sl p0_late 75 2 (a0_late.map Twrite.row)]) [] (by kernel_rfl) rfl (Zc.on (fun _ hw => hw.sel [0, 2, 3] (by decide) rfl) (Zc.fin (fun _ hw => hw)))) rfl rfl rfl (Y.fieldP fd54_0 rfl) ?_
   refine V2.y (i := 3) (Nx2.of (Z := Cls w F [.obj pb0 [p0_safe, p0_seen, p0_late, .int .i64 gx1] 54, .sl p0_seen 9 1 (a0_seen.map SR), .sl p0_late 75 2 (a0_late.map Twrite.row)]) [] (by kernel_rfl) rfl (Zc.on (fun _ hw => hw.sel [0, 2, 3] (by decide) rfl) (Zc.fin (fun _ hw => hw)))) rfl rfl rfl (Y.loadP (i := 0) ag30 rfl rfl rfl) ?_
   refine V2.y (i := 4) (Nx2.of (Z := Cls w F [.obj pb0 [p0_safe, p0_seen, p0_late, .int .i64 gx1] 54, .sl p0_seen 9 1 (a0_seen.map SR), .sl p0_late 75 2 (a0_late.map Twrite.row)]) [] (by kernel_rfl) rfl (Zc.on (fun _ hw => hw.sel [0, 2, 3] (by decide) rfl) (Zc.fin (fun _ hw => hw)))) rfl rfl rfl (Y.move rfl) ?_
   refine V2.nilc (i := 5) (Nx2.of (Z := Cls w F [.obj pb0 [p0_safe, p0_seen, p0_late, .int .i64 gx1] 54, .sl p0_seen 9 1 (a0_seen.map SR), .sl p0_late 75 2 (a0_late.map Twrite.row)]) [] (by kernel_rfl) rfl (Zc.on (fun _ hw => hw.sel [0, 2, 3] (by decide) rfl) (Zc.fin (fun _ hw => hw)))) rfl rfl rfl ?_
   refine V2.y (i := 6) (Nx2.of (Z := Cls w F [.obj pb0 [p0_safe, p0_seen, p0_late, .int .i64 gx1] 54, .sl p0_seen 9 1 (a0_seen.map SR), .sl p0_late 75 2 (a0_late.map Twrite.row)]) [] (by kernel_rfl) rfl (Zc.on (fun _ hw => hw.sel [0, 2, 3] (by decide) rfl) (Zc.fin (fun _ hw => hw)))) rfl rfl rfl (Y.fieldP fd54_1 rfl) ?_
   refine V2.y (i := 7) (Nx2.of (Z := Cls w F [.obj pb0 [p0_safe, p0_seen, p0_late, .int .i64 gx1] 54, .sl p0_seen 9 1 (a0_seen.map SR), .sl p0_late 75 2 (a0_late.map Twrite.row)]) [] (by kernel_rfl) rfl (Zc.on (fun _ hw => hw.sel [0, 2, 3] (by decide) rfl) (Zc.fin (fun _ hw => hw)))) rfl rfl rfl (Y.loadP (i := 0) ag30 rfl rfl rfl) ?_
   refine V2.eff (i := 8) (by kernel_rfl) rfl ?_
   refine L.copyMD (i := 1) (g := SR) (l := a0_safe) (s := a0_seen) rfl Tryd.underlying30 eL9 rfl rfl rfl (fun w hw => As.at_ (hw.get (i := 2) rfl)) (plain_SR _) (fun _ => ?_)
   refine L.nil (E.toV2 (stC [] [] (Cls w F [.obj pb0 [p0_safe, p0_seen, p0_late, .int .i64 gx1] 54, .sl p0_seen 9 1 (a0_seen.map SR), .sl p0_late 75 2 (a0_late.map Twrite.row)])) 8 (by kernel_rfl) (Sc.past rfl (Sc.stayD (fun _ hw => hw))) (Sc.atD (fun _ hw => hw.sel [0, 2, 3] (by decide) rfl)) ?_)
   refine V2.done (by kernel_rfl) ?_
   refine E.thenN (W.seq (W.region (L.y rfl (Y.move rfl) ?_)))
   refine L.y rfl (Y.nilCheck rfl) ?_
   refine L.y rfl (Y.fieldP fd54_2 rfl) ?_
   refine L.store (i := 0) (vs := [.slice none 0 0]) sz52 rfl rfl rfl rfl (by simp [Value.oneCell', Value.cells, st, pt, el]) rfl (Nat.le_of_ble_eq_true rfl) ?_
   refine L.nil (E.thenN (W.seq (W.region (L.y rfl (Y.assign rfl) ?_))))
   refine L.nil (E.thenN (W.ret (E.ret1 rfl rfl (fun w1 hw => ?_))))
   obtain rfl := Option.some.inj h
   exact ⟨_, _, rfl, ⟨_, _, _, rfl, rfl⟩, (hw.nilSl 75 2).sel [1, 2, 3, 0] (by decide) rfl⟩
set_option maxRecDepth 100000 in
set_option maxHeartbeats 8000000 in
theorem w27_wal_Log_raise (a0_d_safe : (List (List UInt8))) (a0_d_seen : (List (List UInt8))) (a0_d_late : (List Twrite)) (a0_d_left : Int) (a0_from : Int) (a0_size : Int) (a0_epoch : Int) (a0_at : Int) (a0_seq : Int) (a0_fell : Bool) (pb0 : Nat) (pb0_d : Nat) (p0_d_safe : Value) (p0_d_seen : Value) (p0_d_late : Value) (w : World) (r : ((List (List UInt8)) × (List (List UInt8)) × (List Twrite) × Int × Int × Bool × Int)) (h : m27_wal_Log_raise a0_d_safe a0_d_seen a0_d_late a0_d_left a0_from a0_size a0_epoch a0_at a0_seq a0_fell = some r) (F : List Nat) (hc0 : Cls w F [.obj pb0 [pt pb0_d 0, .int .i64 a0_from, .int .i64 a0_size, .int .i64 a0_epoch, .int .i64 a0_at, .int .i64 a0_seq, .bool a0_fell] 58, .obj pb0_d [p0_d_safe, p0_d_seen, p0_d_late, .int .i64 a0_d_left] 54, .sl p0_d_safe 9 1 (a0_d_safe.map SR), .sl p0_d_seen 9 1 (a0_d_seen.map SR), .sl p0_d_late 75 2 (a0_d_late.map Twrite.row)] w) : DoesF Tryd.prog 27 [pt pb0 0] F w fun u m => ∃ y1 y2 y3, u = .int .i64 r.2.2.2.2.2.2 ∧ m = [.obj pb0 [pt pb0_d 0, .int .i64 a0_from, .int .i64 a0_size, .int .i64 r.2.2.2.2.1, .int .i64 a0_at, .int .i64 a0_seq, .bool r.2.2.2.2.2.1] 58, .obj pb0_d [y1, y2, y3, .int .i64 r.2.2.2.1] 54, .sl y1 9 1 (r.1.map SR), .sl y2 9 1 (r.2.1.map SR), .sl y3 75 2 (r.2.2.1.map Twrite.row)] := by
  rw [m27_wal_Log_raise] at h
  refine body (n := 47) Tryd.func27 rfl rfl rfl hc0 ?_
  refine W.seq (W.region (L.y rfl (Y.assign rfl) ?_))
  refine L.nil (E.thenN (W.seqJ (fun gs D => gs = [(0, pt pb0 0)] ∧ D = Cls w F [.obj pb0 [pt pb0_d 0, .int .i64 a0_from, .int .i64 a0_size, .int .i64 a0_epoch, .int .i64 a0_at, .int .i64 a0_seq, .bool a0_fell] 58, .obj pb0_d [p0_d_safe, p0_d_seen, p0_d_late, .int .i64 a0_d_left] 54, .sl p0_d_safe 9 1 (a0_d_safe.map SR), .sl p0_d_seen 9 1 (a0_d_seen.map SR), .sl p0_d_late 75 2 (a0_d_late.map Twrite.row)] ∧ m27_wal_Log_raise_K1 a0_epoch a0_d_safe a0_d_seen a0_d_late a0_d_left a0_from a0_fell = some r) ?_ ?_))
  ·
   refine W.seq (W.region (L.y rfl (Y.move rfl) ?_))
   refine L.y rfl (Y.nilCheck rfl) ?_
   refine L.y rfl (Y.fieldP fd58_3 rfl) ?_
   refine L.y rfl (Y.loadP (i := 0) ag3 rfl rfl rfl) ?_
   refine L.ite h rfl (Y.geq rfl rfl) (fun c55 h => ?_) (fun c55 h => ?_)
   ·
    refine L.nil (E.thenN (W.condT rfl ?_))
    refine W.seq (W.region (L.y rfl (Y.assign rfl) ?_))
    refine L.nil (E.thenN (W.ret (E.KSR (E.ret1 rfl rfl (fun w1 hw => ?_)))))
    obtain rfl := Option.some.inj h
    exact ⟨_, _, rfl, ⟨_, _, _, rfl, rfl⟩, hw⟩
   ·
    refine L.nil (E.thenN (W.condF rfl ?_))
    exact W.skip (E.joinJ ⟨rfl, rfl, h⟩ ⟨rfl, trivial⟩ (fun _ hw => hw))
  ·
   rintro _ _ ⟨rfl, rfl, h⟩
   rw [m27_wal_Log_raise_K1] at h
   refine W.seqJ (fun gs D => ∃ (gv1 : Value) (gl2 : (List (List UInt8))) (gv3 : Value) (gl4 : (List Twrite)) (gx5 : Int), gs = [(0, pt pb0 0)] ∧ D = Cls w F [.obj pb0 [pt pb0_d 0, .int .i64 a0_from, .int .i64 a0_size, .int .i64 a0_epoch, .int .i64 a0_at, .int .i64 a0_seq, .bool a0_fell] 58, .obj pb0_d [p0_d_safe, gv1, gv3, .int .i64 gx5] 54, .sl p0_d_safe 9 1 (a0_d_safe.map SR), .sl gv1 9 1 (gl2.map SR), .sl gv3 75 2 (gl4.map Twrite.row)] ∧ m27_wal_Log_raise_K2 a0_d_safe a0_fell a0_epoch gl2 gl4 gx5 = some r) ?_ ?_
   ·
    refine W.seq (W.drawn2 (k := 16) (stC [[14]] [Cls w F [.obj pb0 [pt pb0_d 0, .int .i64 a0_from, .int .i64 a0_size, .int .i64 a0_epoch, .int .i64 a0_at, .int .i64 a0_seq, .bool a0_fell] 58, .obj pb0_d [p0_d_safe, p0_d_seen, p0_d_late, .int .i64 a0_d_left] 54, .sl p0_d_safe 9 1 (a0_d_safe.map SR), .sl p0_d_seen 9 1 (a0_d_seen.map SR), .sl p0_d_late 75 2 (a0_d_late.map Twrite.row)]] (Cls w F [.obj pb0 [pt pb0_d 0, .int .i64 a0_from, .int .i64 a0_size, .int .i64 a0_epoch, .int .i64 a0_at, .int .i64 a0_seq, .bool a0_fell] 58, .sl p0_d_safe 9 1 (a0_d_safe.map SR)])) rfl mixed (fun _ hw => hw.drew) (Sc.now (by kernel_rfl) (fun _ hw => hw)) ?_)
    refine V2.y (i := 0) (Nx2.of (Z := Cls w F [.obj pb0 [pt pb0_d 0, .int .i64 a0_from, .int .i64 a0_size, .int .i64 a0_epoch, .int .i64 a0_at, .int .i64 a0_seq, .bool a0_fell] 58, .sl p0_d_safe 9 1 (a0_d_safe.map SR)]) [] (by kernel_rfl) rfl (Zc.on (fun _ hw => hw.sel [0, 2] (by decide) rfl) (Zc.fin (fun _ hw => hw)))) rfl rfl rfl (Y.move rfl) ?_
    refine V2.nilc (i := 1) (Nx2.of (Z := Cls w F [.obj pb0 [pt pb0_d 0, .int .i64 a0_from, .int .i64 a0_size, .int .i64 a0_epoch, .int .i64 a0_at, .int .i64 a0_seq, .bool a0_fell] 58, .sl p0_d_safe 9 1 (a0_d_safe.map SR)]) [] (by kernel_rfl) rfl (Zc.on (fun _ hw => hw.sel [0, 2] (by decide) rfl) (Zc.fin (fun _ hw => hw)))) rfl rfl rfl ?_
    refine V2.y (i := 2) (Nx2.of (Z := Cls w F [.obj pb0 [pt pb0_d 0, .int .i64 a0_from, .int .i64 a0_size, .int .i64 a0_epoch, .int .i64 a0_at, .int .i64 a0_seq, .bool a0_fell] 58, .sl p0_d_safe 9 1 (a0_d_safe.map SR)]) [] (by kernel_rfl) rfl (Zc.on (fun _ hw => hw.sel [0, 2] (by decide) rfl) (Zc.fin (fun _ hw => hw)))) rfl rfl rfl (Y.fieldP fd58_0 rfl) ?_
    refine V2.y (i := 3) (Nx2.of (Z := Cls w F [.obj pb0 [pt pb0_d 0, .int .i64 a0_from, .int .i64 a0_size, .int .i64 a0_epoch, .int .i64 a0_at, .int .i64 a0_seq, .bool a0_fell] 58, .sl p0_d_safe 9 1 (a0_d_safe.map SR)]) [] (by kernel_rfl) rfl (Zc.on (fun _ hw => hw.sel [0, 2] (by decide) rfl) (Zc.fin (fun _ hw => hw)))) rfl rfl rfl (Y.loadP (i := 0) ag23 rfl rfl rfl) ?_
    refine V2.y (i := 4) (Nx2.of (Z := Cls w F [.obj pb0 [pt pb0_d 0, .int .i64 a0_from, .int .i64 a0_size, .int .i64 a0_epoch, .int .i64 a0_at, .int .i64 a0_seq, .bool a0_fell] 58, .sl p0_d_safe 9 1 (a0_d_safe.map SR)]) [] (by kernel_rfl) rfl (Zc.on (fun _ hw => hw.sel [0, 2] (by decide) rfl) (Zc.fin (fun _ hw => hw)))) rfl rfl rfl (Y.move rfl) ?_
    refine V2.nilc (i := 5) (Nx2.of (Z := Cls w F [.obj pb0 [pt pb0_d 0, .int .i64 a0_from, .int .i64 a0_size, .int .i64 a0_epoch, .int .i64 a0_at, .int .i64 a0_seq, .bool a0_fell] 58, .sl p0_d_safe 9 1 (a0_d_safe.map SR)]) [] (by kernel_rfl) rfl (Zc.on (fun _ hw => hw.sel [0, 2] (by decide) rfl) (Zc.fin (fun _ hw => hw)))) rfl rfl rfl ?_
    refine V2.y (i := 6) (Nx2.of (Z := Cls w F [.obj pb0 [pt pb0_d 0, .int .i64 a0_from, .int .i64 a0_size, .int .i64 a0_epoch, .int .i64 a0_at, .int .i64 a0_seq, .bool a0_fell] 58, .sl p0_d_safe 9 1 (a0_d_safe.map SR)]) [] (by kernel_rfl) rfl (Zc.on (fun _ hw => hw.sel [0, 2] (by decide) rfl) (Zc.fin (fun _ hw => hw)))) rfl rfl rfl (Y.fieldP fd58_1 rfl) ?_
    refine V2.y (i := 7) (Nx2.of (Z := Cls w F [.obj pb0 [pt pb0_d 0, .int .i64 a0_from, .int .i64 a0_size, .int .i64 a0_epoch, .int .i64 a0_at, .int .i64 a0_seq, .bool a0_fell] 58, .sl p0_d_safe 9 1 (a0_d_safe.map SR)]) [] (by kernel_rfl) rfl (Zc.on (fun _ hw => hw.sel [0, 2] (by decide) rfl) (Zc.fin (fun _ hw => hw)))) rfl rfl rfl (Y.loadP (i := 0) ag3 rfl rfl rfl) ?_
    refine V2.y (i := 8) (Nx2.of (Z := Cls w F [.obj pb0 [pt pb0_d 0, .int .i64 a0_from, .int .i64 a0_size, .int .i64 a0_epoch, .int .i64 a0_at, .int .i64 a0_seq, .bool a0_fell] 58, .sl p0_d_safe 9 1 (a0_d_safe.map SR)]) [] (by kernel_rfl) rfl (Zc.on (fun _ hw => hw.sel [0, 2] (by decide) rfl) (Zc.fin (fun _ hw => hw)))) rfl rfl rfl (Y.move rfl) ?_
    refine V2.nilc (i := 9) (Nx2.of (Z := Cls w F [.obj pb0 [pt pb0_d 0, .int .i64 a0_from, .int .i64 a0_size, .int .i64 a0_epoch, .int .i64 a0_at, .int .i64 a0_seq, .bool a0_fell] 58, .sl p0_d_safe 9 1 (a0_d_safe.map SR)]) [] (by kernel_rfl) rfl (Zc.on (fun _ hw => hw.sel [0, 2] (by decide) rfl) (Zc.fin (fun _ hw => hw)))) rfl rfl rfl ?_
    refine V2.y (i := 10) (Nx2.of (Z := Cls w F [.obj pb0 [pt pb0_d 0, .int .i64 a0_from, .int .i64 a0_size, .int .i64 a0_epoch, .int .i64 a0_at, .int .i64 a0_seq, .bool a0_fell] 58, .sl p0_d_safe 9 1 (a0_d_safe.map SR)]) [] (by kernel_rfl) rfl (Zc.on (fun _ hw => hw.sel [0, 2] (by decide) rfl) (Zc.fin (fun _ hw => hw)))) rfl rfl rfl (Y.fieldP fd58_3 rfl) ?_
    refine V2.y (i := 11) (Nx2.of (Z := Cls w F [.obj pb0 [pt pb0_d 0, .int .i64 a0_from, .int .i64 a0_size, .int .i64 a0_epoch, .int .i64 a0_at, .int .i64 a0_seq, .bool a0_fell] 58, .sl p0_d_safe 9 1 (a0_d_safe.map SR)]) [] (by kernel_rfl) rfl (Zc.on (fun _ hw => hw.sel [0, 2] (by decide) rfl) (Zc.fin (fun _ hw => hw)))) rfl rfl rfl (Y.loadP (i := 0) ag3 rfl rfl rfl) ?_
    refine V2.m (i := 12) (V' := fun x43 => .int .i64 x43) h (Nx2.of (Z := Cls w F [.obj pb0 [pt pb0_d 0, .int .i64 a0_from, .int .i64 a0_size, .int .i64 a0_epoch, .int .i64 a0_at, .int .i64 a0_seq, .bool a0_fell] 58, .sl p0_d_safe 9 1 (a0_d_safe.map SR)]) [] (by kernel_rfl) rfl (Zc.on (fun _ hw => hw.sel [0, 2] (by decide) rfl) (Zc.fin (fun _ hw => hw)))) rfl rfl rfl (Y.addM rfl rfl) (fun x43 ex43 h => ?_)
    refine V2.eff (i := 13) (by kernel_rfl) rfl ?_
    obtain ⟨s44, e45, h⟩ := bind1S h
    refine L.y rfl (Y.does en51 rfl (fun w' hw => (w51_wal_anchorText x43 w' _ e45).mono (fun _ _ h => h.1))) ?_
    refine L.nil (E.toV2 (stC [[14]] [Cls w F [.obj pb0 [pt pb0_d 0, .int .i64 a0_from, .int .i64 a0_size, .int .i64 a0_epoch, .int .i64 a0_at, .int .i64 a0_seq, .bool a0_fell] 58, .obj pb0_d [p0_d_safe, p0_d_seen, p0_d_late, .int .i64 a0_d_left] 54, .sl p0_d_safe 9 1 (a0_d_safe.map SR), .sl p0_d_seen 9 1 (a0_d_seen.map SR), .sl p0_d_late 75 2 (a0_d_late.map Twrite.row)]] (Cls w F [.obj pb0 [pt pb0_d 0, .int .i64 a0_from, .int .i64 a0_size, .int .i64 a0_epoch, .int .i64 a0_at, .int .i64 a0_seq, .bool a0_fell] 58, .sl p0_d_safe 9 1 (a0_d_safe.map SR)])) 13 (by kernel_rfl) (Sc.stay (fun _ hw => hw) (Sc.stayD (fun _ hw => hw))) (Sc.now (by kernel_rfl) (fun _ hw => hw)) ?_)
    refine V2.eff (i := 14) (by kernel_rfl) rfl ?_
    refine L.to (D := Cls w F [.obj pb0_d [p0_d_safe, p0_d_seen, p0_d_late, .int .i64 a0_d_left] 54, .sl p0_d_safe 9 1 (a0_d_safe.map SR), .sl p0_d_seen 9 1 (a0_d_seen.map SR), .sl p0_d_late 75 2 (a0_d_late.map Twrite.row), .obj pb0 [pt pb0_d 0, .int .i64 a0_from, .int .i64 a0_size, .int .i64 a0_epoch, .int .i64 a0_at, .int .i64 a0_seq, .bool a0_fell] 58]) (fun _ hw => hw.sel [1, 2, 3, 4, 0] (by decide) rfl) ?_
    obtain ⟨l46, l47, x48, x49, e50, h⟩ := bind4S h
    refine L.doesP (A := [.obj pb0_d [p0_d_safe, p0_d_seen, p0_d_late, .int .i64 a0_d_left] 54, .sl p0_d_safe 9 1 (a0_d_safe.map SR), .sl p0_d_seen 9 1 (a0_d_seen.map SR), .sl p0_d_late 75 2 (a0_d_late.map Twrite.row)]) (M := [.obj pb0 [pt pb0_d 0, .int .i64 a0_from, .int .i64 a0_size, .int .i64 a0_epoch, .int .i64 a0_at, .int .i64 a0_seq, .bool a0_fell] 58]) rfl en33 rfl (fun w' hw => w33_sect_Disk_Write a0_d_safe a0_d_seen a0_d_late a0_d_left a0_from s44 pb0_d p0_d_safe p0_d_seen p0_d_late w' _ e50 _ hw.lend) ?_
    rintro _ _ ⟨v51, v52, rfl, rfl⟩
    refine L.to (D := Cls w F [.obj pb0_d [p0_d_safe, v51, v52, .int .i64 x48] 54, .sl p0_d_safe 9 1 (a0_d_safe.map SR), .sl v51 9 1 (l46.map SR), .sl v52 75 2 (l47.map Twrite.row), .obj pb0 [pt pb0_d 0, .int .i64 a0_from, .int .i64 a0_size, .int .i64 a0_epoch, .int .i64 a0_at, .int .i64 a0_seq, .bool a0_fell] 58]) (fun _ hw => hw) ?_
    refine L.nil (E.toV2 (stC [] [] (Cls w F [.sl p0_d_safe 9 1 (a0_d_safe.map SR), .sl v51 9 1 (l46.map SR), .sl v52 75 2 (l47.map Twrite.row), .obj pb0 [pt pb0_d 0, .int .i64 a0_from, .int .i64 a0_size, .int .i64 a0_epoch, .int .i64 a0_at, .int .i64 a0_seq, .bool a0_fell] 58])) 14 (by kernel_rfl) (Sc.past rfl (Sc.stayD (fun _ hw => hw.sel [3, 0] (by decide) rfl))) (Sc.atD (fun _ hw => hw.sel [1, 2, 3, 4] (by decide) rfl)) ?_)
    refine V2.y (i := 15) (Nx2.of (Z := Cls w F [.sl p0_d_safe 9 1 (a0_d_safe.map SR), .sl v51 9 1 (l46.map SR), .sl v52 75 2 (l47.map Twrite.row), .obj pb0 [pt pb0_d 0, .int .i64 a0_from, .int .i64 a0_size, .int .i64 a0_epoch, .int .i64 a0_at, .int .i64 a0_seq, .bool a0_fell] 58]) [] (by kernel_rfl) rfl (Zc.fin (fun _ hw => hw))) rfl rfl rfl (Y.assign rfl) ?_
    refine V2.done (by kernel_rfl) ?_
    refine E.thenN (W.seq (W.region (L.y rfl (Y.move rfl) ?_)))
    refine L.ite h rfl (Y.neq rfl rfl) (fun c53 h => ?_) (fun c53 h => ?_)
    ·
     refine L.nil (E.thenN (W.condT rfl ?_))
     refine W.seq (W.region (L.y rfl (Y.move rfl) ?_))
     refine L.y rfl (Y.move rfl) ?_
     refine L.callJ (fun v D => ∃ (gb7 : Bool), v = .int .i64 x49 ∧ D = Cls w F [.obj pb0_d [p0_d_safe, v51, v52, .int .i64 x48] 54, .obj pb0 [pt pb0_d 0, .int .i64 a0_from, .int .i64 a0_size, .int .i64 a0_epoch, .int .i64 a0_at, .int .i64 a0_seq, .bool gb7] 58, .sl p0_d_safe 9 1 (a0_d_safe.map SR), .sl v51 9 1 (l46.map SR), .sl v52 75 2 (l47.map Twrite.row)] ∧ m27_wal_Log_raise_K4 a0_d_safe l46 l47 x48 a0_epoch x49 gb7 = some r) rfl en34 rfl Tryd.func34 rfl rfl rfl ?_ ?_
     ·
      refine W.seq (W.region (L.y rfl (Y.assign rfl) ?_))
      refine L.nil (E.thenN (W.seq (W.region (L.y rfl (Y.move rfl) ?_))))
      refine L.y rfl (Y.move rfl) ?_
      refine L.y rfl (Y.nilCheck rfl) ?_
      refine L.y rfl (Y.fieldP fd58_6 rfl) ?_
      refine L.iteB h rfl (Y.loadP (i := 4) ag4 rfl rfl rfl) (fun c54 h => ?_) (fun c54 h => ?_)
      ·
       refine L.y rfl (Y.move rfl) ?_
       refine L.pass rfl rfl (by nofun) ?_
       refine L.pass rfl rfl (by nofun) ?_
       refine L.y rfl (Y.pickT rfl rfl) ?_
       refine L.y rfl (Y.nilCheck rfl) ?_
       refine L.y rfl (Y.fieldP fd58_6 rfl) ?_
       refine L.store (i := 4) (vs := [.bool true]) sz4 rfl rfl rfl rfl (by simp [Value.oneCell', Value.cells, st, pt, el]) rfl (Nat.le_of_ble_eq_true rfl) ?_
       refine L.nil (E.thenN (W.seq (W.region (L.y rfl (Y.move rfl) ?_))))
       refine L.y rfl (Y.assign rfl) ?_
       refine L.nil (E.thenN (W.ret (E.ret1 rfl rfl (fun w1 hw => ?_))))
       exact ⟨_, _, rfl, ⟨true, rfl, rfl, h⟩, hw.sel [0, 4, 1, 2, 3] (by decide) rfl⟩
      ·
       refine L.y rfl (Y.move rfl) ?_
       refine L.take rfl (L.y rfl (Y.move rfl) ?_)
       refine L.take rfl (L.y rfl (Y.neq rfl rfl) ?_)
       refine L.y rfl (Y.pickF rfl rfl) ?_
       refine L.y rfl (Y.nilCheck rfl) ?_
       refine L.y rfl (Y.fieldP fd58_6 rfl) ?_
       refine L.store (i := 4) (vs := [.bool (decide (x49 ≠ 0))]) sz4 rfl rfl rfl rfl (by simp [Value.oneCell', Value.cells, st, pt, el]) rfl (Nat.le_of_ble_eq_true rfl) ?_
       refine L.nil (E.thenN (W.seq (W.region (L.y rfl (Y.move rfl) ?_))))
       refine L.y rfl (Y.assign rfl) ?_
       refine L.nil (E.thenN (W.ret (E.ret1 rfl rfl (fun w1 hw => ?_))))
       exact ⟨_, _, rfl, ⟨decide (x49 ≠ 0), rfl, rfl, h⟩, hw.sel [0, 4, 1, 2, 3] (by decide) rfl⟩
     ·
      rintro _ _ ⟨gb7, rfl, rfl, h⟩
      rw [m27_wal_Log_raise_K4] at h
      refine L.y rfl (Y.assign rfl) ?_
      refine L.nil (E.thenN (W.ret (E.KSR (E.ret1 rfl rfl (fun w1 hw => ?_)))))
      obtain rfl := Option.some.inj h
      exact ⟨_, _, rfl, ⟨_, _, _, rfl, rfl⟩, hw.sel [1, 0, 2, 3, 4] (by decide) rfl⟩
    ·
     refine L.nil (E.thenN (W.condF rfl ?_))
     exact W.skip (E.joinJ ⟨v51, l46, v52, l47, x48, rfl, rfl, h⟩ ⟨rfl, trivial⟩ (fun _ hw => hw.sel [4, 0, 1, 2, 3] (by decide) rfl))
   ·
    rintro _ _ ⟨gv1, gl2, gv3, gl4, gx5, rfl, rfl, h⟩
    rw [m27_wal_Log_raise_K2] at h
    refine W.seq (W.seq (W.region (L.y rfl (Y.move rfl) ?_)))
    refine L.y rfl (Y.nilCheck rfl) ?_
    refine L.y rfl (Y.fieldP fd58_0 rfl) ?_
    refine L.y rfl (Y.loadP (i := 0) ag23 rfl rfl rfl) ?_
    refine L.to (D := Cls w F [.obj pb0_d [p0_d_safe, gv1, gv3, .int .i64 gx5] 54, .sl p0_d_safe 9 1 (a0_d_safe.map SR), .sl gv1 9 1 (gl2.map SR), .sl gv3 75 2 (gl4.map Twrite.row), .obj pb0 [pt pb0_d 0, .int .i64 a0_from, .int .i64 a0_size, .int .i64 a0_epoch, .int .i64 a0_at, .int .i64 a0_seq, .bool a0_fell] 58]) (fun _ hw => hw.sel [1, 2, 3, 4, 0] (by decide) rfl) ?_
    obtain ⟨l1, l2, l3, x4, x5, e6, h⟩ := bind5S h
    refine L.doesP (A := [.obj pb0_d [p0_d_safe, gv1, gv3, .int .i64 gx5] 54, .sl p0_d_safe 9 1 (a0_d_safe.map SR), .sl gv1 9 1 (gl2.map SR), .sl gv3 75 2 (gl4.map Twrite.row)]) (M := [.obj pb0 [pt pb0_d 0, .int .i64 a0_from, .int .i64 a0_size, .int .i64 a0_epoch, .int .i64 a0_at, .int .i64 a0_seq, .bool a0_fell] 58]) rfl en38 rfl (fun w' hw => w38_sect_Disk_Flush a0_d_safe gl2 gl4 gx5 pb0_d p0_d_safe gv1 gv3 w' _ e6 _ hw.lend) ?_
    rintro _ _ ⟨v7, v8, v9, rfl, rfl⟩
    refine L.to (D := Cls w F [.obj pb0_d [v7, v8, v9, .int .i64 x4] 54, .sl v7 9 1 (l1.map SR), .sl v8 9 1 (l2.map SR), .sl v9 75 2 (l3.map Twrite.row), .obj pb0 [pt pb0_d 0, .int .i64 a0_from, .int .i64 a0_size, .int .i64 a0_epoch, .int .i64 a0_at, .int .i64 a0_seq, .bool a0_fell] 58]) (fun _ hw => hw) ?_
    refine L.y rfl (Y.assign rfl) ?_
    refine L.nil (E.thenN (W.seq (W.region (L.y rfl (Y.move rfl) ?_))))
    refine L.ite h rfl (Y.neq rfl rfl) (fun c10 h => ?_) (fun c10 h => ?_)
    ·
     refine L.nil (E.thenN (W.condT rfl ?_))
     refine W.seq (W.region (L.y rfl (Y.move rfl) ?_))
     refine L.y rfl (Y.move rfl) ?_
     refine L.callJ (fun v D => ∃ (gb6 : Bool), v = .int .i64 x5 ∧ D = Cls w F [.obj pb0_d [v7, v8, v9, .int .i64 x4] 54, .obj pb0 [pt pb0_d 0, .int .i64 a0_from, .int .i64 a0_size, .int .i64 a0_epoch, .int .i64 a0_at, .int .i64 a0_seq, .bool gb6] 58, .sl v7 9 1 (l1.map SR), .sl v8 9 1 (l2.map SR), .sl v9 75 2 (l3.map Twrite.row)] ∧ m27_wal_Log_raise_K3 l1 l2 l3 x4 a0_epoch x5 gb6 = some r) rfl en34 rfl Tryd.func34 rfl rfl rfl ?_ ?_
     ·
      refine W.seq (W.region (L.y rfl (Y.assign rfl) ?_))
      refine L.nil (E.thenN (W.seq (W.region (L.y rfl (Y.move rfl) ?_))))
      refine L.y rfl (Y.move rfl) ?_
      refine L.y rfl (Y.nilCheck rfl) ?_
      refine L.y rfl (Y.fieldP fd58_6 rfl) ?_
      refine L.iteB h rfl (Y.loadP (i := 4) ag4 rfl rfl rfl) (fun c11 h => ?_) (fun c11 h => ?_)
      ·
       refine L.y rfl (Y.move rfl) ?_
       refine L.pass rfl rfl (by nofun) ?_
       refine L.pass rfl rfl (by nofun) ?_
       refine L.y rfl (Y.pickT rfl rfl) ?_
       refine L.y rfl (Y.nilCheck rfl) ?_
       refine L.y rfl (Y.fieldP fd58_6 rfl) ?_
       refine L.store (i := 4) (vs := [.bool true]) sz4 rfl rfl rfl rfl (by simp [Value.oneCell', Value.cells, st, pt, el]) rfl (Nat.le_of_ble_eq_true rfl) ?_
       refine L.nil (E.thenN (W.seq (W.region (L.y rfl (Y.move rfl) ?_))))
       refine L.y rfl (Y.assign rfl) ?_
       refine L.nil (E.thenN (W.ret (E.ret1 rfl rfl (fun w1 hw => ?_))))
       exact ⟨_, _, rfl, ⟨true, rfl, rfl, h⟩, hw.sel [0, 4, 1, 2, 3] (by decide) rfl⟩
      ·
       refine L.y rfl (Y.move rfl) ?_
       refine L.take rfl (L.y rfl (Y.move rfl) ?_)
       refine L.take rfl (L.y rfl (Y.neq rfl rfl) ?_)
       refine L.y rfl (Y.pickF rfl rfl) ?_
       refine L.y rfl (Y.nilCheck rfl) ?_
       refine L.y rfl (Y.fieldP fd58_6 rfl) ?_
       refine L.store (i := 4) (vs := [.bool (decide (x5 ≠ 0))]) sz4 rfl rfl rfl rfl (by simp [Value.oneCell', Value.cells, st, pt, el]) rfl (Nat.le_of_ble_eq_true rfl) ?_
       refine L.nil (E.thenN (W.seq (W.region (L.y rfl (Y.move rfl) ?_))))
       refine L.y rfl (Y.assign rfl) ?_
       refine L.nil (E.thenN (W.ret (E.ret1 rfl rfl (fun w1 hw => ?_))))
       exact ⟨_, _, rfl, ⟨decide (x5 ≠ 0), rfl, rfl, h⟩, hw.sel [0, 4, 1, 2, 3] (by decide) rfl⟩
     ·
      rintro _ _ ⟨gb6, rfl, rfl, h⟩
      rw [m27_wal_Log_raise_K3] at h
      refine L.y rfl (Y.assign rfl) ?_
      refine L.nil (E.thenN (W.ret (E.thenR (E.ret1 rfl rfl (fun w1 hw => ?_)))))
      obtain rfl := Option.some.inj h
      exact ⟨_, _, rfl, ⟨_, _, _, rfl, rfl⟩, hw.sel [1, 0, 2, 3, 4] (by decide) rfl⟩
    ·
     refine L.nil (E.thenN (W.condF rfl ?_))
     refine W.skip (E.thenN (W.seq (W.region (L.y rfl (Y.move rfl) ?_))))
     refine L.y rfl (Y.nilCheck rfl) ?_
     refine L.y rfl (Y.fieldP fd58_3 rfl) ?_
     refine L.y rfl (Y.loadP (i := 4) ag3 rfl rfl rfl) ?_
     refine L.m (V := fun x12 => .int .i64 x12) h rfl (Y.addM rfl rfl) (fun x12 ex12 h => ?_)
     refine L.y rfl (Y.nilCheck rfl) ?_
     refine L.y rfl (Y.fieldP fd58_3 rfl) ?_
     refine L.store (i := 4) (vs := [.int .i64 x12]) sz3 rfl rfl rfl rfl (by simp [Value.oneCell', Value.cells, st, pt, el]) rfl (Nat.le_of_ble_eq_true rfl) ?_
     refine L.nil (E.thenN (W.seq (W.region (L.y rfl (Y.assign rfl) ?_))))
     refine L.nil (E.thenN (W.ret (E.ret1 rfl rfl (fun w1 hw => ?_))))
     obtain rfl := Option.some.inj h
     exact ⟨_, _, rfl, ⟨_, _, _, rfl, rfl⟩, hw.sel [4, 0, 1, 2, 3] (by decide) rfl⟩
set_option maxRecDepth 100000 in
set_option maxHeartbeats 8000000 in
theorem w6_wal_Open (a0_safe : (List (List UInt8))) (a0_seen : (List (List UInt8))) (a0_late : (List Twrite)) (a0_left : Int) (a1 : Int) (a2 : Int) (pb0 : Nat) (p0_safe : Value) (p0_seen : Value) (p0_late : Value) (w : World) (r : (((List (List UInt8)) × (List (List UInt8)) × (List Twrite) × Int × (List (List UInt8)) × Int) ⊕ ((List (List UInt8)) × (List (List UInt8)) × (List Twrite) × Int × (List (List UInt8)) × Int × Int × Int × Int × Int × Int × Bool))) (h : m6_wal_Open a0_safe a0_seen a0_late a0_left a1 a2 = some r) (F : List Nat) (hc0 : Cls w F [.obj pb0 [p0_safe, p0_seen, p0_late, .int .i64 a0_left] 54, .sl p0_safe 9 1 (a0_safe.map SR), .sl p0_seen 9 1 (a0_seen.map SR), .sl p0_late 75 2 (a0_late.map Twrite.row)] w) : DoesF Tryd.prog 6 [pt pb0 0, .int .i64 a1, .int .i64 a2] F w fun u m => match r with | .inl r0 => ∃ y1 y2 y3 y5, u = .tuple #[.pointer none, y5, .int .i64 r0.2.2.2.2.2] ∧ m = [.obj pb0 [y1, y2, y3, .int .i64 r0.2.2.2.1] 54, .sl y1 9 1 (r0.1.map SR), .sl y2 9 1 (r0.2.1.map SR), .sl y3 75 2 (r0.2.2.1.map Twrite.row), .sl y5 9 1 (r0.2.2.2.2.1.map SR)] | .inr r1 => ∃ y1 y2 y3 y5 nb, u = .tuple #[pt nb 0, y5, .int .i64 r1.2.2.2.2.2.1] ∧ m = [.obj nb [pt pb0 0, .int .i64 r1.2.2.2.2.2.2.1, .int .i64 r1.2.2.2.2.2.2.2.1, .int .i64 r1.2.2.2.2.2.2.2.2.1, .int .i64 r1.2.2.2.2.2.2.2.2.2.1, .int .i64 r1.2.2.2.2.2.2.2.2.2.2.1, .bool r1.2.2.2.2.2.2.2.2.2.2.2] 58, .obj pb0 [y1, y2, y3, .int .i64 r1.2.2.2.1] 54, .sl y1 9 1 (r1.1.map SR), .sl y2 9 1 (r1.2.1.map SR), .sl y3 75 2 (r1.2.2.1.map Twrite.row), .sl y5 9 1 (r1.2.2.2.2.1.map SR)] := by
  rw [m6_wal_Open] at h
  refine body (n := 122) Tryd.func6 rfl rfl rfl hc0 ?_
  refine W.seq (W.region (L.y rfl (Y.assign rfl) ?_))
  refine L.y rfl (Y.assign rfl) ?_
  refine L.y rfl (Y.assign rfl) ?_
  refine L.nil (E.thenN (W.seqJ (fun gs D => gs = [(0, pt pb0 0), (1, .int .i64 a1), (2, .int .i64 a2)] ∧ D = Cls w F [.obj pb0 [p0_safe, p0_seen, p0_late, .int .i64 a0_left] 54, .sl p0_safe 9 1 (a0_safe.map SR), .sl p0_seen 9 1 (a0_seen.map SR), .sl p0_late 75 2 (a0_late.map Twrite.row)] ∧ m6_wal_Open_K1 a0_safe a0_seen a0_late a0_left a1 a2 = some r) ?_ ?_))
  ·
   refine W.seq (W.region (L.cutJ 6 (fun gs D => ∃ (gb20 : Bool), gs = [(0, pt pb0 0), (1, .int .i64 a1), (2, .int .i64 a2), (22, .bool gb20)] ∧ D = Cls w F [.obj pb0 [p0_safe, p0_seen, p0_late, .int .i64 a0_left] 54, .sl p0_safe 9 1 (a0_safe.map SR), .sl p0_seen 9 1 (a0_seen.map SR), .sl p0_late 75 2 (a0_late.map Twrite.row)] ∧ m6_wal_Open_K8 a0_safe a0_seen a0_late a0_left a1 a2 gb20 = some r) ?_ ?_))
   ·
    refine L.y rfl (Y.move rfl) ?_
    refine L.ite h rfl (Y.lss rfl rfl) (fun c49 h => ?_) (fun c49 h => ?_)
    ·
     refine L.y rfl (Y.move rfl) ?_
     refine L.pass rfl rfl (by nofun) ?_
     refine L.pass rfl rfl (by nofun) ?_
     refine L.y rfl (Y.pickT rfl rfl) ?_
     exact L.nil (E.joinJ ⟨true, rfl, rfl, h⟩ ⟨rfl, rfl, rfl, rfl, trivial⟩ (fun _ hw => hw))
    ·
     refine L.y rfl (Y.move rfl) ?_
     refine L.take rfl (L.y rfl (Y.move rfl) ?_)
     refine L.take rfl (L.ite h rfl (Y.lss rfl rfl) (fun c50 h => ?_) (fun c50 h => ?_))
     ·
      refine L.y rfl (Y.pickF rfl rfl) ?_
      exact L.nil (E.joinJ ⟨true, rfl, rfl, h⟩ ⟨rfl, rfl, rfl, rfl, trivial⟩ (fun _ hw => hw))
     ·
      refine L.y rfl (Y.pickF rfl rfl) ?_
      exact L.nil (E.joinJ ⟨false, rfl, rfl, h⟩ ⟨rfl, rfl, rfl, rfl, trivial⟩ (fun _ hw => hw))
   ·
    rintro _ _ ⟨gb20, rfl, rfl, h⟩
    rw [m6_wal_Open_K8] at h
    rcases gb20 with _ | _
    ·
     replace h := iteF h
     refine L.y rfl (Y.move rfl) ?_
     refine L.take rfl (L.y rfl (Y.move rfl) ?_)
     refine L.take rfl (L.y rfl (Y.move rfl) ?_)
     refine L.take rfl (L.callJ (fun v D => v = .int .i64 (a0_safe.length : Int) ∧ D = Cls w F [.obj pb0 [p0_safe, p0_seen, p0_late, .int .i64 a0_left] 54, .sl p0_safe 9 1 (a0_safe.map SR), .sl p0_seen 9 1 (a0_seen.map SR), .sl p0_late 75 2 (a0_late.map Twrite.row)] ∧ m6_wal_Open_K9 a0_safe a1 a0_seen a0_late a0_left a2 = some r) rfl en24 rfl Tryd.func24 rfl rfl rfl ?_ ?_)
     ·
      refine W.seq (W.region (L.y rfl (Y.assign rfl) ?_))
      refine L.nil (E.thenN (W.seq (W.region (L.y rfl (Y.move rfl) ?_))))
      refine L.y rfl (Y.nilCheck rfl) ?_
      refine L.y rfl (Y.fieldP fd54_0 rfl) ?_
      refine L.y rfl (Y.loadP (i := 0) ag30 rfl rfl rfl) ?_
      refine L.y rfl (Y.lenM (g := SR) (l := a0_safe) Tryd.underlying30 rfl (fun w hw => As.at_ (hw.get (i := 1) rfl))) ?_
      refine L.y rfl (Y.assign rfl) ?_
      refine L.nil (E.thenN (W.ret (E.ret1 rfl rfl (fun w1 hw => ?_))))
      exact ⟨_, _, rfl, ⟨rfl, rfl, h⟩, hw⟩
     ·
      rintro _ _ ⟨rfl, rfl, h⟩
      rw [m6_wal_Open_K9] at h
      refine L.take rfl (L.ite h rfl (Y.gtr rfl rfl) (fun c46 h => ?_) (fun c46 h => ?_))
      ·
       refine L.y rfl (Y.pickF rfl rfl) ?_
       refine L.y rfl (Y.move rfl) ?_
       refine L.pass rfl rfl (by nofun) ?_
       refine L.pass rfl rfl (by nofun) ?_
       refine L.pass rfl rfl (by nofun) ?_
       refine L.pass rfl rfl (by nofun) ?_
       refine L.pass rfl rfl (by nofun) ?_
       refine L.pass rfl rfl (by nofun) ?_
       refine L.y rfl (Y.pickT rfl rfl) ?_
       refine L.nil (E.thenN (W.condT rfl ?_))
       refine W.seq (W.region (L.y rfl (Y.assign rfl) ?_))
       refine L.y rfl (Y.assign rfl) ?_
       refine L.y rfl (Y.assign rfl) ?_
       refine L.nil (E.thenN (W.ret (E.KSR (E.ret3 rfl rfl rfl rfl (fun w1 hw => ?_)))))
       obtain rfl := Option.some.inj h
       exact ⟨_, _, rfl, ⟨_, _, _, _, rfl, rfl⟩, (hw.nilSl 9 1).sel [1, 2, 3, 4, 0] (by decide) rfl⟩
      ·
       refine L.y rfl (Y.pickF rfl rfl) ?_
       refine L.y rfl (Y.move rfl) ?_
       refine L.take rfl (L.y rfl (Y.move rfl) ?_)
       refine L.take rfl (L.y rfl (Y.move rfl) ?_)
       refine L.take rfl (L.callJ (fun v D => v = .int .i64 (a0_safe.length : Int) ∧ D = Cls w F [.obj pb0 [p0_safe, p0_seen, p0_late, .int .i64 a0_left] 54, .sl p0_safe 9 1 (a0_safe.map SR), .sl p0_seen 9 1 (a0_seen.map SR), .sl p0_late 75 2 (a0_late.map Twrite.row)] ∧ m6_wal_Open_K10 a0_safe a1 a2 a0_seen a0_late a0_left = some r) rfl en24 rfl Tryd.func24 rfl rfl rfl ?_ ?_)
       ·
        refine W.seq (W.region (L.y rfl (Y.assign rfl) ?_))
        refine L.nil (E.thenN (W.seq (W.region (L.y rfl (Y.move rfl) ?_))))
        refine L.y rfl (Y.nilCheck rfl) ?_
        refine L.y rfl (Y.fieldP fd54_0 rfl) ?_
        refine L.y rfl (Y.loadP (i := 0) ag30 rfl rfl rfl) ?_
        refine L.y rfl (Y.lenM (g := SR) (l := a0_safe) Tryd.underlying30 rfl (fun w hw => As.at_ (hw.get (i := 1) rfl))) ?_
        refine L.y rfl (Y.assign rfl) ?_
        refine L.nil (E.thenN (W.ret (E.ret1 rfl rfl (fun w1 hw => ?_))))
        exact ⟨_, _, rfl, ⟨rfl, rfl, h⟩, hw⟩
       ·
        rintro _ _ ⟨rfl, rfl, h⟩
        rw [m6_wal_Open_K10] at h
        refine L.take rfl (L.y rfl (Y.move rfl) ?_)
        refine L.take rfl (L.m (V := fun x47 => .int .i64 x47) h rfl (Y.subM rfl rfl) (fun x47 ex47 h => ?_))
        refine L.take rfl (L.ite h rfl (Y.gtr rfl rfl) (fun c48 h => ?_) (fun c48 h => ?_))
        ·
         refine L.y rfl (Y.pickF rfl rfl) ?_
         refine L.nil (E.thenN (W.condT rfl ?_))
         refine W.seq (W.region (L.y rfl (Y.assign rfl) ?_))
         refine L.y rfl (Y.assign rfl) ?_
         refine L.y rfl (Y.assign rfl) ?_
         refine L.nil (E.thenN (W.ret (E.KSR (E.ret3 rfl rfl rfl rfl (fun w1 hw => ?_)))))
         obtain rfl := Option.some.inj h
         exact ⟨_, _, rfl, ⟨_, _, _, _, rfl, rfl⟩, (hw.nilSl 9 1).sel [1, 2, 3, 4, 0] (by decide) rfl⟩
        ·
         refine L.y rfl (Y.pickF rfl rfl) ?_
         refine L.nil (E.thenN (W.condF rfl ?_))
         exact W.skip (E.joinJ ⟨rfl, rfl, h⟩ ⟨rfl, rfl, rfl, trivial⟩ (fun _ hw => hw))
    ·
     replace h := iteT h
     refine L.y rfl (Y.move rfl) ?_
     refine L.pass rfl rfl (by nofun) ?_
     refine L.pass rfl rfl (by nofun) ?_
     refine L.pass rfl rfl (by nofun) ?_
     refine L.pass rfl rfl (by nofun) ?_
     refine L.y rfl (Y.pickT rfl rfl) ?_
     refine L.y rfl (Y.move rfl) ?_
     refine L.pass rfl rfl (by nofun) ?_
     refine L.pass rfl rfl (by nofun) ?_
     refine L.pass rfl rfl (by nofun) ?_
     refine L.pass rfl rfl (by nofun) ?_
     refine L.pass rfl rfl (by nofun) ?_
     refine L.pass rfl rfl (by nofun) ?_
     refine L.y rfl (Y.pickT rfl rfl) ?_
     refine L.nil (E.thenN (W.condT rfl ?_))
     refine W.seq (W.region (L.y rfl (Y.assign rfl) ?_))
     refine L.y rfl (Y.assign rfl) ?_
     refine L.y rfl (Y.assign rfl) ?_
     refine L.nil (E.thenN (W.ret (E.KSR (E.ret3 rfl rfl rfl rfl (fun w1 hw => ?_)))))
     obtain rfl := Option.some.inj h
     exact ⟨_, _, rfl, ⟨_, _, _, _, rfl, rfl⟩, (hw.nilSl 9 1).sel [1, 2, 3, 4, 0] (by decide) rfl⟩
  ·
   rintro _ _ ⟨rfl, rfl, h⟩
   rw [m6_wal_Open_K1] at h
   refine W.seq (W.region (L.y rfl (Y.move rfl) ?_))
   refine L.y rfl (Y.move rfl) ?_
   refine L.y rfl (Y.move rfl) ?_
   refine L.y rfl (Y.build (cells := #[pt pb0 0, .int .i64 a1, .int .i64 a2, .int .i64 0, .int .i64 1, .int .i64 0, .bool false]) rfl (by kernel_rfl)) ?_
   refine L.box rfl rfl ?_
   intro b1
   refine L.y rfl (Y.assign rfl) ?_
   refine L.nil (E.thenN (W.seq (W.region (L.y rfl (Y.move rfl) ?_))))
   refine L.y rfl (Y.move rfl) ?_
   refine L.to (D := Cls w F [.obj pb0 [p0_safe, p0_seen, p0_late, .int .i64 a0_left] 54, .sl p0_safe 9 1 (a0_safe.map SR), .sl p0_seen 9 1 (a0_seen.map SR), .sl p0_late 75 2 (a0_late.map Twrite.row), .obj b1 [pt pb0 0, .int .i64 a1, .int .i64 a2, .int .i64 0, .int .i64 1, .int .i64 0, .bool false] 58]) (fun _ hw => hw.sel [1, 2, 3, 4, 0] (by decide) rfl) ?_
   obtain ⟨s2, x3, e4, h⟩ := bind2S h
   refine L.doesP (A := [.obj pb0 [p0_safe, p0_seen, p0_late, .int .i64 a0_left] 54, .sl p0_safe 9 1 (a0_safe.map SR), .sl p0_seen 9 1 (a0_seen.map SR), .sl p0_late 75 2 (a0_late.map Twrite.row)]) (M := [.obj b1 [pt pb0 0, .int .i64 a1, .int .i64 a2, .int .i64 0, .int .i64 1, .int .i64 0, .bool false] 58]) rfl en21 rfl (fun w' hw => w21_sect_Disk_Read a0_safe a0_seen a0_late a0_left a1 pb0 p0_safe p0_seen p0_late w' _ e4 _ hw.lend) ?_
   rintro _ _ ⟨rfl, rfl⟩
   refine L.to (D := Cls w F [.obj pb0 [p0_safe, p0_seen, p0_late, .int .i64 a0_left] 54, .sl p0_safe 9 1 (a0_safe.map SR), .sl p0_seen 9 1 (a0_seen.map SR), .sl p0_late 75 2 (a0_late.map Twrite.row), .obj b1 [pt pb0 0, .int .i64 a1, .int .i64 a2, .int .i64 0, .int .i64 1, .int .i64 0, .bool false] 58]) (fun _ hw => hw) ?_
   refine L.y rfl (Y.move rfl) ?_
   refine L.y rfl (Y.extract rfl rfl) ?_
   refine L.y rfl (Y.extract rfl rfl) ?_
   refine L.y rfl (Y.assign rfl) ?_
   refine L.y rfl (Y.assign rfl) ?_
   refine L.nil (E.thenN (W.seqJ (fun gs D => gs = [(9, pt b1 0), (10, st s2)] ∧ D = Cls w F [.obj pb0 [p0_safe, p0_seen, p0_late, .int .i64 a0_left] 54, .obj b1 [pt pb0 0, .int .i64 a1, .int .i64 a2, .int .i64 0, .int .i64 1, .int .i64 0, .bool false] 58, .sl p0_safe 9 1 (a0_safe.map SR), .sl p0_seen 9 1 (a0_seen.map SR), .sl p0_late 75 2 (a0_late.map Twrite.row)] ∧ m6_wal_Open_K2 s2 a0_safe a0_seen a0_late a0_left a1 a2 = some r) ?_ ?_))
   ·
    refine W.seq (W.region (L.y rfl (Y.move rfl) ?_))
    refine L.ite h rfl (Y.neq rfl rfl) (fun c45 h => ?_) (fun c45 h => ?_)
    ·
     refine L.nil (E.thenN (W.condT rfl ?_))
     refine W.seq (W.region (L.y rfl (Y.move rfl) ?_))
     refine L.y rfl (Y.assign rfl) ?_
     refine L.y rfl (Y.assign rfl) ?_
     refine L.y rfl (Y.assign rfl) ?_
     refine L.nil (E.thenN (W.ret (E.KSR (E.ret3 rfl rfl rfl rfl (fun w1 hw => ?_)))))
     obtain rfl := Option.some.inj h
     exact ⟨_, _, rfl, ⟨_, _, _, _, rfl, rfl⟩, (hw.nilSl 9 1).sel [1, 2, 3, 4, 0] (by decide) rfl⟩
    ·
     refine L.nil (E.thenN (W.condF rfl ?_))
     exact W.skip (E.joinJ ⟨rfl, rfl, h⟩ ⟨rfl, rfl, trivial⟩ (fun _ hw => hw.sel [0, 4, 1, 2, 3] (by decide) rfl))
   ·
    rintro _ _ ⟨rfl, rfl, h⟩
    rw [m6_wal_Open_K2] at h
    refine W.seqJ (fun gs D => ∃ (gx1 : Int), gs = [(9, pt b1 0)] ∧ D = Cls w F [.obj pb0 [p0_safe, p0_seen, p0_late, .int .i64 a0_left] 54, .obj b1 [pt pb0 0, .int .i64 a1, .int .i64 a2, .int .i64 gx1, .int .i64 1, .int .i64 0, .bool false] 58, .sl p0_safe 9 1 (a0_safe.map SR), .sl p0_seen 9 1 (a0_seen.map SR), .sl p0_late 75 2 (a0_late.map Twrite.row)] ∧ m6_wal_Open_K3 a0_safe a0_seen a0_late a0_left a1 a2 gx1 = some r) ?_ ?_
    ·
     refine W.seq (W.region (L.y rfl (Y.move rfl) ?_))
     refine L.y rfl (Y.move rfl) ?_
     obtain ⟨x41, x42, e43, h⟩ := bind2S h
     refine L.y rfl (Y.does en25 rfl (fun w' hw => (w25_wal_epochOf s2 w' _ e43).mono (fun _ _ h => h.1))) ?_
     refine L.y rfl (Y.move rfl) ?_
     refine L.y rfl (Y.extract rfl rfl) ?_
     refine L.y rfl (Y.extract rfl rfl) ?_
     refine L.y rfl (Y.nilCheck rfl) ?_
     refine L.y rfl (Y.fieldP fd58_3 rfl) ?_
     refine L.store (i := 1) (vs := [.int .i64 x41]) sz3 rfl rfl rfl rfl (by simp [Value.oneCell', Value.cells, st, pt, el]) rfl (Nat.le_of_ble_eq_true rfl) ?_
     refine L.y rfl (Y.assign rfl) ?_
     refine L.nil (E.thenN (W.seq (W.region (L.y rfl (Y.move rfl) ?_))))
     refine L.ite h rfl (Y.neq rfl rfl) (fun c44 h => ?_) (fun c44 h => ?_)
     ·
      refine L.nil (E.thenN (W.condT rfl ?_))
      refine W.seq (W.region (L.y rfl (Y.move rfl) ?_))
      refine L.y rfl (Y.assign rfl) ?_
      refine L.y rfl (Y.assign rfl) ?_
      refine L.y rfl (Y.assign rfl) ?_
      refine L.nil (E.thenN (W.ret (E.KSR (E.ret3 rfl rfl rfl rfl (fun w1 hw => ?_)))))
      obtain rfl := Option.some.inj h
      exact ⟨_, _, rfl, ⟨_, _, _, _, rfl, rfl⟩, (hw.nilSl 9 1).sel [1, 3, 4, 5, 0] (by decide) rfl⟩
     ·
      refine L.nil (E.thenN (W.condF rfl ?_))
      exact W.skip (E.joinJ ⟨x41, rfl, rfl, h⟩ ⟨rfl, trivial⟩ (fun _ hw => hw))
    ·
     rintro _ _ ⟨gx1, rfl, rfl, h⟩
     rw [m6_wal_Open_K3] at h
     refine W.seq (W.region (L.y rfl (Y.assign rfl) ?_))
     refine L.nil (E.thenN (W.seqJ (fun gs D => ∃ (gv2 : Value) (gl3 : (List (List UInt8))) (gx4 : Int) (gx5 : Int), gs = [(9, pt b1 0), (12, gv2)] ∧ D = Cls w F [.obj pb0 [p0_safe, p0_seen, p0_late, .int .i64 a0_left] 54, .obj b1 [pt pb0 0, .int .i64 a1, .int .i64 a2, .int .i64 gx1, .int .i64 gx4, .int .i64 gx5, .bool false] 58, .sl gv2 9 1 (gl3.map SR), .sl p0_safe 9 1 (a0_safe.map SR), .sl p0_seen 9 1 (a0_seen.map SR), .sl p0_late 75 2 (a0_late.map Twrite.row)] ∧ m6_wal_Open_K4 a0_safe a0_seen a0_late a0_left a1 a2 gx1 gl3 gx4 gx5 = some r) ?_ ?_))
     ·
      refine W.seq (W.region (L.y rfl (Y.assign rfl) ?_))
      refine L.nil (E.thenN (W.block (W.nilSl 9 1 ?_)))
      refine W.loopJ (fun m gs D => ∃ (gv6 : Value) (gl7 : (List (List UInt8))) (gx8 : Int) (gx9 : Int) (gx10 : Int), gs = [(9, pt b1 0), (12, gv6), (13, .int .i64 gx8)] ∧ D = Cls w F [.obj pb0 [p0_safe, p0_seen, p0_late, .int .i64 a0_left] 54, .obj b1 [pt pb0 0, .int .i64 a1, .int .i64 a2, .int .i64 gx1, .int .i64 gx9, .int .i64 gx10, .bool false] 58, .sl gv6 9 1 (gl7.map SR), .sl p0_safe 9 1 (a0_safe.map SR), .sl p0_seen 9 1 (a0_seen.map SR), .sl p0_late 75 2 (a0_late.map Twrite.row)] ∧ m6_wal_Open_L1 a0_safe a0_seen a0_late a0_left a1 a2 gx1 m gl7 gx8 gx9 gx10 = some r) ⟨.slice none 0 0, [], 0, 1, 0, rfl, rfl, h⟩ ⟨rfl, rfl, rfl, trivial⟩ (fun _ hw => hw.sel [1, 2, 0, 3, 4, 5] (by decide) rfl) ?_
      rintro m _ _ ⟨gv6, gl7, gx8, gx9, gx10, rfl, rfl, h⟩
      rcases m with _ | m
      · rw [m6_wal_Open_L1] at h; cases h
      rw [m6_wal_Open_L1] at h
      generalize hg1 : m6_wal_Open_L1 a0_safe a0_seen a0_late a0_left a1 a2 gx1 m = go1 at h
      rw [m6_wal_Open_L1B] at h
      refine W.seqJ (fun gs D => ∃ (gv11 : Value) (gl12 : (List (List UInt8))) (gx13 : Int) (gx14 : Int), gs = [(9, pt b1 0), (12, gv11), (13, .int .i64 gx13)] ∧ D = Cls w F [.obj pb0 [p0_safe, p0_seen, p0_late, .int .i64 a0_left] 54, .obj b1 [pt pb0 0, .int .i64 a1, .int .i64 a2, .int .i64 gx1, .int .i64 gx14, .int .i64 gx10, .bool false] 58, .sl gv11 9 1 (gl12.map SR), .sl p0_safe 9 1 (a0_safe.map SR), .sl p0_seen 9 1 (a0_seen.map SR), .sl p0_late 75 2 (a0_late.map Twrite.row)] ∧ m6_wal_Open_K5 gx10 go1 gl12 gx13 gx14 = some r) ?_ ?_
      ·
       refine W.block (W.seqJ (fun gs D => ∃ (gb15 : Nat) (gx16 : Int) (gs17 : (List UInt8)) (gx18 : Int) (gb19 : Bool), gs = [(9, pt b1 0), (12, gv6), (13, .int .i64 gx8), (14, pt gb15 0), (15, .bool gb19)] ∧ D = Cls w F [.obj pb0 [p0_safe, p0_seen, p0_late, .int .i64 a0_left] 54, .obj b1 [pt pb0 0, .int .i64 a1, .int .i64 a2, .int .i64 gx1, .int .i64 gx9, .int .i64 gx10, .bool false] 58, .sl gv6 9 1 (gl7.map SR), .obj gb15 [.int .i64 gx16, st gs17, .int .i64 gx18] 62, .sl p0_safe 9 1 (a0_safe.map SR), .sl p0_seen 9 1 (a0_seen.map SR), .sl p0_late 75 2 (a0_late.map Twrite.row)] ∧ m6_wal_Open_K6 gx8 a0_safe a0_seen a0_late a0_left a1 a2 gx1 gl7 gx9 gx10 go1 gx16 gs17 gx18 gb19 = some r) ?_ ?_)
       ·
        refine W.drawn2 (k := 16) (stC [[14]] [Cls w F [.obj pb0 [p0_safe, p0_seen, p0_late, .int .i64 a0_left] 54, .obj b1 [pt pb0 0, .int .i64 a1, .int .i64 a2, .int .i64 gx1, .int .i64 gx9, .int .i64 gx10, .bool false] 58, .sl gv6 9 1 (gl7.map SR), .sl p0_safe 9 1 (a0_safe.map SR), .sl p0_seen 9 1 (a0_seen.map SR), .sl p0_late 75 2 (a0_late.map Twrite.row)]] (Cls w F [.obj pb0 [p0_safe, p0_seen, p0_late, .int .i64 a0_left] 54, .obj b1 [pt pb0 0, .int .i64 a1, .int .i64 a2, .int .i64 gx1, .int .i64 gx9, .int .i64 gx10, .bool false] 58, .sl gv6 9 1 (gl7.map SR), .sl p0_safe 9 1 (a0_safe.map SR), .sl p0_seen 9 1 (a0_seen.map SR), .sl p0_late 75 2 (a0_late.map Twrite.row)])) rfl mixed (fun _ hw => hw.drew) (Sc.now (by kernel_rfl) (fun _ hw => hw)) ?_
        refine V2.y (i := 0) (Nx2.of (Z := Cls w F [.obj pb0 [p0_safe, p0_seen, p0_late, .int .i64 a0_left] 54, .obj b1 [pt pb0 0, .int .i64 a1, .int .i64 a2, .int .i64 gx1, .int .i64 gx9, .int .i64 gx10, .bool false] 58, .sl gv6 9 1 (gl7.map SR), .sl p0_safe 9 1 (a0_safe.map SR), .sl p0_seen 9 1 (a0_seen.map SR), .sl p0_late 75 2 (a0_late.map Twrite.row)]) [] (by kernel_rfl) rfl (Zc.on (fun _ hw => hw) (Zc.fin (fun _ hw => hw)))) rfl rfl rfl (Y.move rfl) ?_
        refine V2.y (i := 1) (Nx2.of (Z := Cls w F [.obj pb0 [p0_safe, p0_seen, p0_late, .int .i64 a0_left] 54, .obj b1 [pt pb0 0, .int .i64 a1, .int .i64 a2, .int .i64 gx1, .int .i64 gx9, .int .i64 gx10, .bool false] 58, .sl gv6 9 1 (gl7.map SR), .sl p0_safe 9 1 (a0_safe.map SR), .sl p0_seen 9 1 (a0_seen.map SR), .sl p0_late 75 2 (a0_late.map Twrite.row)]) [] (by kernel_rfl) rfl (Zc.on (fun _ hw => hw) (Zc.fin (fun _ hw => hw)))) rfl rfl rfl (Y.move rfl) ?_
        refine V2.nilc (i := 2) (Nx2.of (Z := Cls w F [.obj pb0 [p0_safe, p0_seen, p0_late, .int .i64 a0_left] 54, .obj b1 [pt pb0 0, .int .i64 a1, .int .i64 a2, .int .i64 gx1, .int .i64 gx9, .int .i64 gx10, .bool false] 58, .sl gv6 9 1 (gl7.map SR), .sl p0_safe 9 1 (a0_safe.map SR), .sl p0_seen 9 1 (a0_seen.map SR), .sl p0_late 75 2 (a0_late.map Twrite.row)]) [] (by kernel_rfl) rfl (Zc.on (fun _ hw => hw) (Zc.fin (fun _ hw => hw)))) rfl rfl rfl ?_
        refine V2.y (i := 3) (Nx2.of (Z := Cls w F [.obj pb0 [p0_safe, p0_seen, p0_late, .int .i64 a0_left] 54, .obj b1 [pt pb0 0, .int .i64 a1, .int .i64 a2, .int .i64 gx1, .int .i64 gx9, .int .i64 gx10, .bool false] 58, .sl gv6 9 1 (gl7.map SR), .sl p0_safe 9 1 (a0_safe.map SR), .sl p0_seen 9 1 (a0_seen.map SR), .sl p0_late 75 2 (a0_late.map Twrite.row)]) [] (by kernel_rfl) rfl (Zc.on (fun _ hw => hw) (Zc.fin (fun _ hw => hw)))) rfl rfl rfl (Y.fieldP fd58_4 rfl) ?_
        refine V2.y (i := 4) (Nx2.of (Z := Cls w F [.obj pb0 [p0_safe, p0_seen, p0_late, .int .i64 a0_left] 54, .obj b1 [pt pb0 0, .int .i64 a1, .int .i64 a2, .int .i64 gx1, .int .i64 gx9, .int .i64 gx10, .bool false] 58, .sl gv6 9 1 (gl7.map SR), .sl p0_safe 9 1 (a0_safe.map SR), .sl p0_seen 9 1 (a0_seen.map SR), .sl p0_late 75 2 (a0_late.map Twrite.row)]) [] (by kernel_rfl) rfl (Zc.on (fun _ hw => hw) (Zc.fin (fun _ hw => hw)))) rfl rfl rfl (Y.loadP (i := 1) ag3 rfl rfl rfl) ?_
        refine V2.y (i := 5) (Nx2.of (Z := Cls w F [.obj pb0 [p0_safe, p0_seen, p0_late, .int .i64 a0_left] 54, .obj b1 [pt pb0 0, .int .i64 a1, .int .i64 a2, .int .i64 gx1, .int .i64 gx9, .int .i64 gx10, .bool false] 58, .sl gv6 9 1 (gl7.map SR), .sl p0_safe 9 1 (a0_safe.map SR), .sl p0_seen 9 1 (a0_seen.map SR), .sl p0_late 75 2 (a0_late.map Twrite.row)]) [] (by kernel_rfl) rfl (Zc.on (fun _ hw => hw) (Zc.fin (fun _ hw => hw)))) rfl rfl rfl (Y.move rfl) ?_
        refine V2.nilc (i := 6) (Nx2.of (Z := Cls w F [.obj pb0 [p0_safe, p0_seen, p0_late, .int .i64 a0_left] 54, .obj b1 [pt pb0 0, .int .i64 a1, .int .i64 a2, .int .i64 gx1, .int .i64 gx9, .int .i64 gx10, .bool false] 58, .sl gv6 9 1 (gl7.map SR), .sl p0_safe 9 1 (a0_safe.map SR), .sl p0_seen 9 1 (a0_seen.map SR), .sl p0_late 75 2 (a0_late.map Twrite.row)]) [] (by kernel_rfl) rfl (Zc.on (fun _ hw => hw) (Zc.fin (fun _ hw => hw)))) rfl rfl rfl ?_
        refine V2.y (i := 7) (Nx2.of (Z := Cls w F [.obj pb0 [p0_safe, p0_seen, p0_late, .int .i64 a0_left] 54, .obj b1 [pt pb0 0, .int .i64 a1, .int .i64 a2, .int .i64 gx1, .int .i64 gx9, .int .i64 gx10, .bool false] 58, .sl gv6 9 1 (gl7.map SR), .sl p0_safe 9 1 (a0_safe.map SR), .sl p0_seen 9 1 (a0_seen.map SR), .sl p0_late 75 2 (a0_late.map Twrite.row)]) [] (by kernel_rfl) rfl (Zc.on (fun _ hw => hw) (Zc.fin (fun _ hw => hw)))) rfl rfl rfl (Y.fieldP fd58_5 rfl) ?_
        refine V2.y (i := 8) (Nx2.of (Z := Cls w F [.obj pb0 [p0_safe, p0_seen, p0_late, .int .i64 a0_left] 54, .obj b1 [pt pb0 0, .int .i64 a1, .int .i64 a2, .int .i64 gx1, .int .i64 gx9, .int .i64 gx10, .bool false] 58, .sl gv6 9 1 (gl7.map SR), .sl p0_safe 9 1 (a0_safe.map SR), .sl p0_seen 9 1 (a0_seen.map SR), .sl p0_late 75 2 (a0_late.map Twrite.row)]) [] (by kernel_rfl) rfl (Zc.on (fun _ hw => hw) (Zc.fin (fun _ hw => hw)))) rfl rfl rfl (Y.loadP (i := 1) ag3 rfl rfl rfl) ?_
        refine V2.eff2 (i1 := 9) (i2 := 13) (by kernel_rfl) rfl rfl ?_ ?_
        ·
         refine L.to (D := Cls w F [.obj b1 [pt pb0 0, .int .i64 a1, .int .i64 a2, .int .i64 gx1, .int .i64 gx9, .int .i64 gx10, .bool false] 58, .obj pb0 [p0_safe, p0_seen, p0_late, .int .i64 a0_left] 54, .sl p0_safe 9 1 (a0_safe.map SR), .sl p0_seen 9 1 (a0_seen.map SR), .sl p0_late 75 2 (a0_late.map Twrite.row), .sl gv6 9 1 (gl7.map SR)]) (fun _ hw => hw.sel [1, 0, 3, 4, 5, 2] (by decide) rfl) ?_
         obtain ⟨x30, b31, e32, h⟩ := bind2S h
         refine L.doesP (A := [.obj b1 [pt pb0 0, .int .i64 a1, .int .i64 a2, .int .i64 gx1, .int .i64 gx9, .int .i64 gx10, .bool false] 58, .obj pb0 [p0_safe, p0_seen, p0_late, .int .i64 a0_left] 54, .sl p0_safe 9 1 (a0_safe.map SR), .sl p0_seen 9 1 (a0_seen.map SR), .sl p0_late 75 2 (a0_late.map Twrite.row)]) (M := [.sl gv6 9 1 (gl7.map SR)]) rfl en26 rfl (fun w' hw => w26_wal_Log_read a0_safe a0_seen a0_late a0_left a1 a2 gx1 gx9 gx10 false gx9 gx10 b1 pb0 p0_safe p0_seen p0_late w' _ e32 _ hw.lend) ?_
         rintro _ _ ⟨rfl, rfl⟩
         refine L.to (D := Cls w F [.obj b1 [pt pb0 0, .int .i64 a1, .int .i64 a2, .int .i64 gx1, .int .i64 gx9, .int .i64 gx10, .bool false] 58, .obj pb0 [p0_safe, p0_seen, p0_late, .int .i64 a0_left] 54, .sl p0_safe 9 1 (a0_safe.map SR), .sl p0_seen 9 1 (a0_seen.map SR), .sl p0_late 75 2 (a0_late.map Twrite.row), .sl gv6 9 1 (gl7.map SR)]) (fun _ hw => hw) ?_
         refine L.nil (E.toV2 (stC [[14]] [Cls w F [.obj b1 [pt pb0 0, .int .i64 a1, .int .i64 a2, .int .i64 gx1, .int .i64 gx9, .int .i64 gx10, .bool false] 58, .obj pb0 [p0_safe, p0_seen, p0_late, .int .i64 a0_left] 54, .sl p0_safe 9 1 (a0_safe.map SR), .sl p0_seen 9 1 (a0_seen.map SR), .sl p0_late 75 2 (a0_late.map Twrite.row), .sl gv6 9 1 (gl7.map SR)]] (Cls w F [.obj b1 [pt pb0 0, .int .i64 a1, .int .i64 a2, .int .i64 gx1, .int .i64 gx9, .int .i64 gx10, .bool false] 58, .obj pb0 [p0_safe, p0_seen, p0_late, .int .i64 a0_left] 54, .sl p0_safe 9 1 (a0_safe.map SR), .sl p0_seen 9 1 (a0_seen.map SR), .sl p0_late 75 2 (a0_late.map Twrite.row), .sl gv6 9 1 (gl7.map SR)])) 9 (by kernel_rfl) (Sc.stay (fun _ hw => hw.sel [1, 0, 5, 2, 3, 4] (by decide) rfl) (Sc.stayD (fun _ hw => hw.sel [1, 0, 5, 2, 3, 4] (by decide) rfl))) (Sc.now (by kernel_rfl) (fun _ hw => hw)) ?_)
         refine V2.y (i := 10) (Nx2.of (Z := Cls w F [.obj b1 [pt pb0 0, .int .i64 a1, .int .i64 a2, .int .i64 gx1, .int .i64 gx9, .int .i64 gx10, .bool false] 58, .obj pb0 [p0_safe, p0_seen, p0_late, .int .i64 a0_left] 54, .sl p0_safe 9 1 (a0_safe.map SR), .sl p0_seen 9 1 (a0_seen.map SR), .sl p0_late 75 2 (a0_late.map Twrite.row), .sl gv6 9 1 (gl7.map SR)]) [] (by kernel_rfl) rfl (Zc.on (fun _ hw => hw) (Zc.fin (fun _ hw => hw)))) rfl rfl rfl (Y.move rfl) ?_
         refine V2.y (i := 11) (Nx2.of (Z := Cls w F [.obj b1 [pt pb0 0, .int .i64 a1, .int .i64 a2, .int .i64 gx1, .int .i64 gx9, .int .i64 gx10, .bool false] 58, .obj pb0 [p0_safe, p0_seen, p0_late, .int .i64 a0_left] 54, .sl p0_safe 9 1 (a0_safe.map SR), .sl p0_seen 9 1 (a0_seen.map SR), .sl p0_late 75 2 (a0_late.map Twrite.row), .sl gv6 9 1 (gl7.map SR)]) [] (by kernel_rfl) rfl (Zc.on (fun _ hw => hw) (Zc.fin (fun _ hw => hw)))) rfl rfl rfl (Y.extract rfl rfl) ?_
         refine V2.iteB (i := 12) h (Nx2.of (Z := Cls w F [.obj b1 [pt pb0 0, .int .i64 a1, .int .i64 a2, .int .i64 gx1, .int .i64 gx9, .int .i64 gx10, .bool false] 58, .obj pb0 [p0_safe, p0_seen, p0_late, .int .i64 a0_left] 54, .sl p0_safe 9 1 (a0_safe.map SR), .sl p0_seen 9 1 (a0_seen.map SR), .sl p0_late 75 2 (a0_late.map Twrite.row), .sl gv6 9 1 (gl7.map SR)]) [] (by kernel_rfl) rfl (Zc.on (fun _ hw => hw) (Zc.fin (fun _ hw => hw)))) rfl rfl rfl (Y.extract rfl rfl) (fun c33 h => ?_) (fun c33 h => ?_)
         ·
          refine V2.eff (i := 13) (by kernel_rfl) rfl ?_
          refine L.alloc rfl ze62 ?_
          intro b34
          refine L.nil (E.toV2 (stC [[14]] [Cls w F [.obj b34 [.int .i64 0, st [], .int .i64 0] 62, .obj b1 [pt pb0 0, .int .i64 a1, .int .i64 a2, .int .i64 gx1, .int .i64 gx9, .int .i64 gx10, .bool false] 58, .obj pb0 [p0_safe, p0_seen, p0_late, .int .i64 a0_left] 54, .sl p0_safe 9 1 (a0_safe.map SR), .sl p0_seen 9 1 (a0_seen.map SR), .sl p0_late 75 2 (a0_late.map Twrite.row), .sl gv6 9 1 (gl7.map SR)]] (Cls w F [.obj b1 [pt pb0 0, .int .i64 a1, .int .i64 a2, .int .i64 gx1, .int .i64 gx9, .int .i64 gx10, .bool false] 58, .obj pb0 [p0_safe, p0_seen, p0_late, .int .i64 a0_left] 54, .sl p0_safe 9 1 (a0_safe.map SR), .sl p0_seen 9 1 (a0_seen.map SR), .sl p0_late 75 2 (a0_late.map Twrite.row), .sl gv6 9 1 (gl7.map SR)])) 13 (by kernel_rfl) (Sc.stay (fun _ hw => hw.sel [1, 2, 3, 4, 5, 6] (by decide) rfl) (Sc.stayD (fun _ hw => hw))) (Sc.now (by kernel_rfl) (fun _ hw => hw)) ?_)
          refine V2.eff (i := 14) (by kernel_rfl) rfl ?_
          refine L.store (i := 0) (vs := [.int .i64 x30.epoch_, st x30.text_, .int .i64 x30.size_]) sz62 rfl rfl rfl rfl (by simp [Value.oneCell', Value.cells, st, pt, el]) rfl (Nat.le_of_ble_eq_true rfl) ?_
          refine L.nil (E.toV2 (stC [] [] (Cls w F [.obj b1 [pt pb0 0, .int .i64 a1, .int .i64 a2, .int .i64 gx1, .int .i64 gx9, .int .i64 gx10, .bool false] 58, .obj pb0 [p0_safe, p0_seen, p0_late, .int .i64 a0_left] 54, .sl p0_safe 9 1 (a0_safe.map SR), .sl p0_seen 9 1 (a0_seen.map SR), .sl p0_late 75 2 (a0_late.map Twrite.row), .sl gv6 9 1 (gl7.map SR)])) 14 (by kernel_rfl) (Sc.past rfl (Sc.stayD (fun _ hw => hw))) (Sc.atD (fun _ hw => hw.sel [1, 2, 3, 4, 5, 6] (by decide) rfl)) ?_)
          refine V2.y (i := 15) (Nx2.of (Z := Cls w F [.obj b1 [pt pb0 0, .int .i64 a1, .int .i64 a2, .int .i64 gx1, .int .i64 gx9, .int .i64 gx10, .bool false] 58, .obj pb0 [p0_safe, p0_seen, p0_late, .int .i64 a0_left] 54, .sl p0_safe 9 1 (a0_safe.map SR), .sl p0_seen 9 1 (a0_seen.map SR), .sl p0_late 75 2 (a0_late.map Twrite.row), .sl gv6 9 1 (gl7.map SR)]) [] (by kernel_rfl) rfl (Zc.fin (fun _ hw => hw))) rfl rfl rfl (Y.assign rfl) ?_
          refine V2.done (by kernel_rfl) ?_
          exact E.joinJ ⟨b34, x30.epoch_, x30.text_, x30.size_, true, rfl, rfl, h⟩ ⟨rfl, rfl, rfl, rfl, rfl, trivial⟩ (fun _ hw => hw.sel [2, 1, 6, 0, 3, 4, 5] (by decide) rfl)
         ·
          refine V2.eff (i := 13) (by kernel_rfl) rfl ?_
          refine L.alloc rfl ze62 ?_
          intro b35
          refine L.nil (E.toV2 (stC [[14]] [Cls w F [.obj b35 [.int .i64 0, st [], .int .i64 0] 62, .obj b1 [pt pb0 0, .int .i64 a1, .int .i64 a2, .int .i64 gx1, .int .i64 gx9, .int .i64 gx10, .bool false] 58, .obj pb0 [p0_safe, p0_seen, p0_late, .int .i64 a0_left] 54, .sl p0_safe 9 1 (a0_safe.map SR), .sl p0_seen 9 1 (a0_seen.map SR), .sl p0_late 75 2 (a0_late.map Twrite.row), .sl gv6 9 1 (gl7.map SR)]] (Cls w F [.obj b1 [pt pb0 0, .int .i64 a1, .int .i64 a2, .int .i64 gx1, .int .i64 gx9, .int .i64 gx10, .bool false] 58, .obj pb0 [p0_safe, p0_seen, p0_late, .int .i64 a0_left] 54, .sl p0_safe 9 1 (a0_safe.map SR), .sl p0_seen 9 1 (a0_seen.map SR), .sl p0_late 75 2 (a0_late.map Twrite.row), .sl gv6 9 1 (gl7.map SR)])) 13 (by kernel_rfl) (Sc.stay (fun _ hw => hw.sel [1, 2, 3, 4, 5, 6] (by decide) rfl) (Sc.stayD (fun _ hw => hw))) (Sc.now (by kernel_rfl) (fun _ hw => hw)) ?_)
          refine V2.eff (i := 14) (by kernel_rfl) rfl ?_
          refine L.store (i := 0) (vs := [.int .i64 x30.epoch_, st x30.text_, .int .i64 x30.size_]) sz62 rfl rfl rfl rfl (by simp [Value.oneCell', Value.cells, st, pt, el]) rfl (Nat.le_of_ble_eq_true rfl) ?_
          refine L.nil (E.toV2 (stC [] [] (Cls w F [.obj b1 [pt pb0 0, .int .i64 a1, .int .i64 a2, .int .i64 gx1, .int .i64 gx9, .int .i64 gx10, .bool false] 58, .obj pb0 [p0_safe, p0_seen, p0_late, .int .i64 a0_left] 54, .sl p0_safe 9 1 (a0_safe.map SR), .sl p0_seen 9 1 (a0_seen.map SR), .sl p0_late 75 2 (a0_late.map Twrite.row), .sl gv6 9 1 (gl7.map SR)])) 14 (by kernel_rfl) (Sc.past rfl (Sc.stayD (fun _ hw => hw))) (Sc.atD (fun _ hw => hw.sel [1, 2, 3, 4, 5, 6] (by decide) rfl)) ?_)
          refine V2.y (i := 15) (Nx2.of (Z := Cls w F [.obj b1 [pt pb0 0, .int .i64 a1, .int .i64 a2, .int .i64 gx1, .int .i64 gx9, .int .i64 gx10, .bool false] 58, .obj pb0 [p0_safe, p0_seen, p0_late, .int .i64 a0_left] 54, .sl p0_safe 9 1 (a0_safe.map SR), .sl p0_seen 9 1 (a0_seen.map SR), .sl p0_late 75 2 (a0_late.map Twrite.row), .sl gv6 9 1 (gl7.map SR)]) [] (by kernel_rfl) rfl (Zc.fin (fun _ hw => hw))) rfl rfl rfl (Y.assign rfl) ?_
          refine V2.done (by kernel_rfl) ?_
          exact E.joinJ ⟨b35, x30.epoch_, x30.text_, x30.size_, false, rfl, rfl, h⟩ ⟨rfl, rfl, rfl, rfl, rfl, trivial⟩ (fun _ hw => hw.sel [2, 1, 6, 0, 3, 4, 5] (by decide) rfl)
        ·
         refine L.alloc rfl ze62 ?_
         intro b36
         refine L.nil (E.toV2 (stC [[14]] [Cls w F [.obj b36 [.int .i64 0, st [], .int .i64 0] 62, .obj pb0 [p0_safe, p0_seen, p0_late, .int .i64 a0_left] 54, .obj b1 [pt pb0 0, .int .i64 a1, .int .i64 a2, .int .i64 gx1, .int .i64 gx9, .int .i64 gx10, .bool false] 58, .sl gv6 9 1 (gl7.map SR), .sl p0_safe 9 1 (a0_safe.map SR), .sl p0_seen 9 1 (a0_seen.map SR), .sl p0_late 75 2 (a0_late.map Twrite.row)]] (Cls w F [.obj pb0 [p0_safe, p0_seen, p0_late, .int .i64 a0_left] 54, .obj b1 [pt pb0 0, .int .i64 a1, .int .i64 a2, .int .i64 gx1, .int .i64 gx9, .int .i64 gx10, .bool false] 58, .sl gv6 9 1 (gl7.map SR), .sl p0_safe 9 1 (a0_safe.map SR), .sl p0_seen 9 1 (a0_seen.map SR), .sl p0_late 75 2 (a0_late.map Twrite.row)])) 13 (by kernel_rfl) (Sc.stay (fun _ hw => hw.sel [1, 2, 3, 4, 5, 6] (by decide) rfl) (Sc.stayD (fun _ hw => hw))) (Sc.now (by kernel_rfl) (fun _ hw => hw)) ?_)
         refine V2.eff (i := 9) (by kernel_rfl) rfl ?_
         refine L.to (D := Cls w F [.obj b1 [pt pb0 0, .int .i64 a1, .int .i64 a2, .int .i64 gx1, .int .i64 gx9, .int .i64 gx10, .bool false] 58, .obj pb0 [p0_safe, p0_seen, p0_late, .int .i64 a0_left] 54, .sl p0_safe 9 1 (a0_safe.map SR), .sl p0_seen 9 1 (a0_seen.map SR), .sl p0_late 75 2 (a0_late.map Twrite.row), .obj b36 [.int .i64 0, st [], .int .i64 0] 62, .sl gv6 9 1 (gl7.map SR)]) (fun _ hw => hw.sel [2, 1, 4, 5, 6, 0, 3] (by decide) rfl) ?_
         obtain ⟨x37, b38, e39, h⟩ := bind2S h
         refine L.doesP (A := [.obj b1 [pt pb0 0, .int .i64 a1, .int .i64 a2, .int .i64 gx1, .int .i64 gx9, .int .i64 gx10, .bool false] 58, .obj pb0 [p0_safe, p0_seen, p0_late, .int .i64 a0_left] 54, .sl p0_safe 9 1 (a0_safe.map SR), .sl p0_seen 9 1 (a0_seen.map SR), .sl p0_late 75 2 (a0_late.map Twrite.row)]) (M := [.obj b36 [.int .i64 0, st [], .int .i64 0] 62, .sl gv6 9 1 (gl7.map SR)]) rfl en26 rfl (fun w' hw => w26_wal_Log_read a0_safe a0_seen a0_late a0_left a1 a2 gx1 gx9 gx10 false gx9 gx10 b1 pb0 p0_safe p0_seen p0_late w' _ e39 _ hw.lend) ?_
         rintro _ _ ⟨rfl, rfl⟩
         refine L.to (D := Cls w F [.obj b1 [pt pb0 0, .int .i64 a1, .int .i64 a2, .int .i64 gx1, .int .i64 gx9, .int .i64 gx10, .bool false] 58, .obj pb0 [p0_safe, p0_seen, p0_late, .int .i64 a0_left] 54, .sl p0_safe 9 1 (a0_safe.map SR), .sl p0_seen 9 1 (a0_seen.map SR), .sl p0_late 75 2 (a0_late.map Twrite.row), .obj b36 [.int .i64 0, st [], .int .i64 0] 62, .sl gv6 9 1 (gl7.map SR)]) (fun _ hw => hw) ?_
         refine L.nil (E.toV2 (stC [[14]] [Cls w F [.obj b1 [pt pb0 0, .int .i64 a1, .int .i64 a2, .int .i64 gx1, .int .i64 gx9, .int .i64 gx10, .bool false] 58, .obj pb0 [p0_safe, p0_seen, p0_late, .int .i64 a0_left] 54, .sl p0_safe 9 1 (a0_safe.map SR), .sl p0_seen 9 1 (a0_seen.map SR), .sl p0_late 75 2 (a0_late.map Twrite.row), .obj b36 [.int .i64 0, st [], .int .i64 0] 62, .sl gv6 9 1 (gl7.map SR)]] (Cls w F [.obj b1 [pt pb0 0, .int .i64 a1, .int .i64 a2, .int .i64 gx1, .int .i64 gx9, .int .i64 gx10, .bool false] 58, .obj pb0 [p0_safe, p0_seen, p0_late, .int .i64 a0_left] 54, .sl p0_safe 9 1 (a0_safe.map SR), .sl p0_seen 9 1 (a0_seen.map SR), .sl p0_late 75 2 (a0_late.map Twrite.row), .sl gv6 9 1 (gl7.map SR)])) 9 (by kernel_rfl) (Sc.stay (fun _ hw => hw.sel [5, 1, 0, 6, 2, 3, 4] (by decide) rfl) (Sc.stayD (fun _ hw => hw.sel [1, 0, 5, 2, 3, 4] (by decide) rfl))) (Sc.now (by kernel_rfl) (fun _ hw => hw)) ?_)
         refine V2.y (i := 10) (Nx2.of (Z := Cls w F [.obj b1 [pt pb0 0, .int .i64 a1, .int .i64 a2, .int .i64 gx1, .int .i64 gx9, .int .i64 gx10, .bool false] 58, .obj pb0 [p0_safe, p0_seen, p0_late, .int .i64 a0_left] 54, .sl p0_safe 9 1 (a0_safe.map SR), .sl p0_seen 9 1 (a0_seen.map SR), .sl p0_late 75 2 (a0_late.map Twrite.row), .sl gv6 9 1 (gl7.map SR)]) [] (by kernel_rfl) rfl (Zc.on (fun _ hw => hw.sel [0, 1, 2, 3, 4, 6] (by decide) rfl) (Zc.fin (fun _ hw => hw)))) rfl rfl rfl (Y.move rfl) ?_
         refine V2.y (i := 11) (Nx2.of (Z := Cls w F [.obj b1 [pt pb0 0, .int .i64 a1, .int .i64 a2, .int .i64 gx1, .int .i64 gx9, .int .i64 gx10, .bool false] 58, .obj pb0 [p0_safe, p0_seen, p0_late, .int .i64 a0_left] 54, .sl p0_safe 9 1 (a0_safe.map SR), .sl p0_seen 9 1 (a0_seen.map SR), .sl p0_late 75 2 (a0_late.map Twrite.row), .sl gv6 9 1 (gl7.map SR)]) [] (by kernel_rfl) rfl (Zc.on (fun _ hw => hw.sel [0, 1, 2, 3, 4, 6] (by decide) rfl) (Zc.fin (fun _ hw => hw)))) rfl rfl rfl (Y.extract rfl rfl) ?_
         refine V2.iteB (i := 12) h (Nx2.of (Z := Cls w F [.obj b1 [pt pb0 0, .int .i64 a1, .int .i64 a2, .int .i64 gx1, .int .i64 gx9, .int .i64 gx10, .bool false] 58, .obj pb0 [p0_safe, p0_seen, p0_late, .int .i64 a0_left] 54, .sl p0_safe 9 1 (a0_safe.map SR), .sl p0_seen 9 1 (a0_seen.map SR), .sl p0_late 75 2 (a0_late.map Twrite.row), .sl gv6 9 1 (gl7.map SR)]) [] (by kernel_rfl) rfl (Zc.on (fun _ hw => hw.sel [0, 1, 2, 3, 4, 6] (by decide) rfl) (Zc.fin (fun _ hw => hw)))) rfl rfl rfl (Y.extract rfl rfl) (fun c40 h => ?_) (fun c40 h => ?_)
         ·
          refine V2.eff (i := 14) (by kernel_rfl) rfl ?_
          refine L.store (i := 5) (vs := [.int .i64 x37.epoch_, st x37.text_, .int .i64 x37.size_]) sz62 rfl rfl rfl rfl (by simp [Value.oneCell', Value.cells, st, pt, el]) rfl (Nat.le_of_ble_eq_true rfl) ?_
          refine L.nil (E.toV2 (stC [] [] (Cls w F [.obj b1 [pt pb0 0, .int .i64 a1, .int .i64 a2, .int .i64 gx1, .int .i64 gx9, .int .i64 gx10, .bool false] 58, .obj pb0 [p0_safe, p0_seen, p0_late, .int .i64 a0_left] 54, .sl p0_safe 9 1 (a0_safe.map SR), .sl p0_seen 9 1 (a0_seen.map SR), .sl p0_late 75 2 (a0_late.map Twrite.row), .sl gv6 9 1 (gl7.map SR)])) 14 (by kernel_rfl) (Sc.past rfl (Sc.stayD (fun _ hw => hw))) (Sc.atD (fun _ hw => hw.sel [0, 1, 2, 3, 4, 6] (by decide) rfl)) ?_)
          refine V2.y (i := 15) (Nx2.of (Z := Cls w F [.obj b1 [pt pb0 0, .int .i64 a1, .int .i64 a2, .int .i64 gx1, .int .i64 gx9, .int .i64 gx10, .bool false] 58, .obj pb0 [p0_safe, p0_seen, p0_late, .int .i64 a0_left] 54, .sl p0_safe 9 1 (a0_safe.map SR), .sl p0_seen 9 1 (a0_seen.map SR), .sl p0_late 75 2 (a0_late.map Twrite.row), .sl gv6 9 1 (gl7.map SR)]) [] (by kernel_rfl) rfl (Zc.fin (fun _ hw => hw))) rfl rfl rfl (Y.assign rfl) ?_
          refine V2.done (by kernel_rfl) ?_
          exact E.joinJ ⟨b36, x37.epoch_, x37.text_, x37.size_, true, rfl, rfl, h⟩ ⟨rfl, rfl, rfl, rfl, rfl, trivial⟩ (fun _ hw => hw.sel [1, 0, 6, 5, 2, 3, 4] (by decide) rfl)
         ·
          refine V2.eff (i := 14) (by kernel_rfl) rfl ?_
          refine L.store (i := 5) (vs := [.int .i64 x37.epoch_, st x37.text_, .int .i64 x37.size_]) sz62 rfl rfl rfl rfl (by simp [Value.oneCell', Value.cells, st, pt, el]) rfl (Nat.le_of_ble_eq_true rfl) ?_
          refine L.nil (E.toV2 (stC [] [] (Cls w F [.obj b1 [pt pb0 0, .int .i64 a1, .int .i64 a2, .int .i64 gx1, .int .i64 gx9, .int .i64 gx10, .bool false] 58, .obj pb0 [p0_safe, p0_seen, p0_late, .int .i64 a0_left] 54, .sl p0_safe 9 1 (a0_safe.map SR), .sl p0_seen 9 1 (a0_seen.map SR), .sl p0_late 75 2 (a0_late.map Twrite.row), .sl gv6 9 1 (gl7.map SR)])) 14 (by kernel_rfl) (Sc.past rfl (Sc.stayD (fun _ hw => hw))) (Sc.atD (fun _ hw => hw.sel [0, 1, 2, 3, 4, 6] (by decide) rfl)) ?_)
          refine V2.y (i := 15) (Nx2.of (Z := Cls w F [.obj b1 [pt pb0 0, .int .i64 a1, .int .i64 a2, .int .i64 gx1, .int .i64 gx9, .int .i64 gx10, .bool false] 58, .obj pb0 [p0_safe, p0_seen, p0_late, .int .i64 a0_left] 54, .sl p0_safe 9 1 (a0_safe.map SR), .sl p0_seen 9 1 (a0_seen.map SR), .sl p0_late 75 2 (a0_late.map Twrite.row), .sl gv6 9 1 (gl7.map SR)]) [] (by kernel_rfl) rfl (Zc.fin (fun _ hw => hw))) rfl rfl rfl (Y.assign rfl) ?_
          refine V2.done (by kernel_rfl) ?_
          exact E.joinJ ⟨b36, x37.epoch_, x37.text_, x37.size_, false, rfl, rfl, h⟩ ⟨rfl, rfl, rfl, rfl, rfl, trivial⟩ (fun _ hw => hw.sel [1, 0, 6, 5, 2, 3, 4] (by decide) rfl)
       ·
        rintro _ _ ⟨gb15, gx16, gs17, gx18, gb19, rfl, rfl, h⟩
        rw [m6_wal_Open_K6] at h
        rcases gb19 with _ | _
        ·
         replace h := iteF h
         refine W.seq (W.seq (W.quietC mixed (by kernel_rfl) (fun _ hw => hw.drew) (fun hC => ?_)))
         refine U.y rfl (Y.move rfl) ?_
         refine U.y rfl (Y.not rfl) ?_
         refine U.y rfl (Y.move rfl) ?_
         refine U.pass rfl rfl (by nofun) ?_
         refine U.pass rfl rfl (by nofun) ?_
         refine U.pass rfl rfl (by nofun) ?_
         refine U.pass rfl rfl (by nofun) ?_
         refine U.y rfl (Y.pickT rfl rfl) ?_
         refine U.y rfl (Y.move rfl) ?_
         refine U.pass rfl rfl (by nofun) ?_
         refine U.pass rfl rfl (by nofun) ?_
         refine U.pass rfl rfl (by nofun) ?_
         refine U.pass rfl rfl (by nofun) ?_
         refine U.pass rfl rfl (by nofun) ?_
         refine U.pass rfl rfl (by nofun) ?_
         refine U.pass rfl rfl (by nofun) ?_
         refine U.y rfl (Y.pickT rfl rfl) ?_
         refine U.nil (E.thenN (W.condT rfl ?_))
         exact W.exit (E.thenX (E.blockY rfl (E.KSX (E.KLX (E.blockX (E.joinJ ⟨gv6, gl7, gx9, gx10, rfl, rfl, h⟩ ⟨rfl, rfl, trivial⟩ (fun _ hw => hw.sel [0, 1, 2, 4, 5, 6] (by decide) rfl)))))))
        ·
         replace h := iteT h
         refine W.seqJ (fun gs D => gs = [(9, pt b1 0), (12, gv6), (14, pt gb15 0)] ∧ D = Cls w F [.obj pb0 [p0_safe, p0_seen, p0_late, .int .i64 a0_left] 54, .obj b1 [pt pb0 0, .int .i64 a1, .int .i64 a2, .int .i64 gx1, .int .i64 gx9, .int .i64 gx10, .bool false] 58, .obj gb15 [.int .i64 gx16, st gs17, .int .i64 gx18] 62, .sl gv6 9 1 (gl7.map SR), .sl p0_safe 9 1 (a0_safe.map SR), .sl p0_seen 9 1 (a0_seen.map SR), .sl p0_late 75 2 (a0_late.map Twrite.row)] ∧ m6_wal_Open_K7 gx9 gx18 gl7 gs17 gx10 go1 gx16 = some r) ?_ ?_
         ·
          refine W.seq (W.quietC mixed (by kernel_rfl) (fun _ hw => hw.drew) (fun hC => ?_))
          refine U.y rfl (Y.move rfl) ?_
          refine U.y rfl (Y.not rfl) ?_
          refine U.y rfl (Y.move rfl) ?_
          refine U.take rfl (U.y rfl (Y.fieldP fd62_0 rfl) ?_)
          refine U.take rfl (U.y rfl (Y.loadP (i := 3) ag3 rfl rfl rfl) ?_)
          refine U.take rfl (U.y rfl (Y.move rfl) ?_)
          refine U.take rfl (U.ite h rfl (Y.lss rfl rfl) (fun c23 h => ?_) (fun c23 h => ?_))
          ·
           refine U.y rfl (Y.pickF rfl rfl) ?_
           refine U.y rfl (Y.move rfl) ?_
           refine U.pass rfl rfl (by nofun) ?_
           refine U.pass rfl rfl (by nofun) ?_
           refine U.pass rfl rfl (by nofun) ?_
           refine U.pass rfl rfl (by nofun) ?_
           refine U.pass rfl rfl (by nofun) ?_
           refine U.pass rfl rfl (by nofun) ?_
           refine U.pass rfl rfl (by nofun) ?_
           refine U.y rfl (Y.pickT rfl rfl) ?_
           refine U.nil (E.thenN (W.condT rfl ?_))
           exact W.exit (E.KSX (E.blockY rfl (E.KSX (E.KLX (E.blockX (E.joinJ ⟨gv6, gl7, gx9, gx10, rfl, rfl, h⟩ ⟨rfl, rfl, trivial⟩ (fun _ hw => hw.sel [0, 1, 2, 4, 5, 6] (by decide) rfl)))))))
          ·
           refine U.y rfl (Y.pickF rfl rfl) ?_
           refine U.y rfl (Y.move rfl) ?_
           refine U.take rfl (U.y rfl (Y.fieldP fd62_0 rfl) ?_)
           refine U.take rfl (U.y rfl (Y.loadP (i := 3) ag3 rfl rfl rfl) ?_)
           refine U.take rfl (U.y rfl (Y.move rfl) ?_)
           refine U.take rfl (U.y rfl (Y.nilCheck rfl) ?_)
           refine U.take rfl (U.y rfl (Y.fieldP fd58_3 rfl) ?_)
           refine U.take rfl (U.y rfl (Y.loadP (i := 1) ag3 rfl rfl rfl) ?_)
           refine U.take rfl (U.ite h rfl (Y.gtr rfl rfl) (fun c24 h => ?_) (fun c24 h => ?_))
           ·
            refine U.y rfl (Y.pickF rfl rfl) ?_
            refine U.nil (E.thenN (W.condT rfl ?_))
            exact W.exit (E.KSX (E.blockY rfl (E.KSX (E.KLX (E.blockX (E.joinJ ⟨gv6, gl7, gx9, gx10, rfl, rfl, h⟩ ⟨rfl, rfl, trivial⟩ (fun _ hw => hw.sel [0, 1, 2, 4, 5, 6] (by decide) rfl)))))))
           ·
            refine U.y rfl (Y.pickF rfl rfl) ?_
            refine U.nil (E.thenN (W.condF rfl ?_))
            exact W.skip (E.joinJ ⟨rfl, rfl, h⟩ ⟨rfl, rfl, rfl, trivial⟩ (fun _ hw => hw.sel [0, 1, 3, 2, 4, 5, 6] (by decide) rfl))
         ·
          rintro _ _ ⟨rfl, rfl, h⟩
          rw [m6_wal_Open_K7] at h
          refine W.seq (W.region (L.y rfl (Y.fieldP fd62_0 rfl) ?_))
          refine L.y rfl (Y.loadP (i := 2) ag3 rfl rfl rfl) ?_
          refine L.y rfl (Y.assign rfl) ?_
          refine L.nil (E.thenN (W.seq (W.drawn2 (k := 10) (stC [[9]] [Cls w F [.obj pb0 [p0_safe, p0_seen, p0_late, .int .i64 a0_left] 54, .obj b1 [pt pb0 0, .int .i64 a1, .int .i64 a2, .int .i64 gx1, .int .i64 gx9, .int .i64 gx10, .bool false] 58, .obj gb15 [.int .i64 gx16, st gs17, .int .i64 gx18] 62, .sl gv6 9 1 (gl7.map SR), .sl p0_safe 9 1 (a0_safe.map SR), .sl p0_seen 9 1 (a0_seen.map SR), .sl p0_late 75 2 (a0_late.map Twrite.row)]] (Cls w F [.obj pb0 [p0_safe, p0_seen, p0_late, .int .i64 a0_left] 54, .obj gb15 [.int .i64 gx16, st gs17, .int .i64 gx18] 62, .sl gv6 9 1 (gl7.map SR), .sl p0_safe 9 1 (a0_safe.map SR), .sl p0_seen 9 1 (a0_seen.map SR), .sl p0_late 75 2 (a0_late.map Twrite.row)])) rfl mixed (fun _ hw => hw.drew) (Sc.now (by kernel_rfl) (fun _ hw => hw)) ?_)))
          refine V2.y (i := 0) (Nx2.of (Z := Cls w F [.obj pb0 [p0_safe, p0_seen, p0_late, .int .i64 a0_left] 54, .obj gb15 [.int .i64 gx16, st gs17, .int .i64 gx18] 62, .sl gv6 9 1 (gl7.map SR), .sl p0_safe 9 1 (a0_safe.map SR), .sl p0_seen 9 1 (a0_seen.map SR), .sl p0_late 75 2 (a0_late.map Twrite.row)]) [] (by kernel_rfl) rfl (Zc.on (fun _ hw => hw.sel [0, 2, 3, 4, 5, 6] (by decide) rfl) (Zc.fin (fun _ hw => hw)))) rfl rfl rfl (Y.move rfl) ?_
          refine V2.nilc (i := 1) (Nx2.of (Z := Cls w F [.obj pb0 [p0_safe, p0_seen, p0_late, .int .i64 a0_left] 54, .obj gb15 [.int .i64 gx16, st gs17, .int .i64 gx18] 62, .sl gv6 9 1 (gl7.map SR), .sl p0_safe 9 1 (a0_safe.map SR), .sl p0_seen 9 1 (a0_seen.map SR), .sl p0_late 75 2 (a0_late.map Twrite.row)]) [] (by kernel_rfl) rfl (Zc.on (fun _ hw => hw.sel [0, 2, 3, 4, 5, 6] (by decide) rfl) (Zc.fin (fun _ hw => hw)))) rfl rfl rfl ?_
          refine V2.y (i := 2) (Nx2.of (Z := Cls w F [.obj pb0 [p0_safe, p0_seen, p0_late, .int .i64 a0_left] 54, .obj gb15 [.int .i64 gx16, st gs17, .int .i64 gx18] 62, .sl gv6 9 1 (gl7.map SR), .sl p0_safe 9 1 (a0_safe.map SR), .sl p0_seen 9 1 (a0_seen.map SR), .sl p0_late 75 2 (a0_late.map Twrite.row)]) [] (by kernel_rfl) rfl (Zc.on (fun _ hw => hw.sel [0, 2, 3, 4, 5, 6] (by decide) rfl) (Zc.fin (fun _ hw => hw)))) rfl rfl rfl (Y.fieldP fd58_4 rfl) ?_
          refine V2.y (i := 3) (Nx2.of (Z := Cls w F [.obj pb0 [p0_safe, p0_seen, p0_late, .int .i64 a0_left] 54, .obj b1 [pt pb0 0, .int .i64 a1, .int .i64 a2, .int .i64 gx1, .int .i64 gx9, .int .i64 gx10, .bool false] 58, .obj gb15 [.int .i64 gx16, st gs17, .int .i64 gx18] 62, .sl gv6 9 1 (gl7.map SR), .sl p0_safe 9 1 (a0_safe.map SR), .sl p0_seen 9 1 (a0_seen.map SR), .sl p0_late 75 2 (a0_late.map Twrite.row)]) [9] (by kernel_rfl) rfl (Zc.at1 (fun _ hw => hw))) rfl rfl rfl (Y.loadP (i := 1) ag3 rfl rfl rfl) ?_
          refine V2.y (i := 4) (Nx2.of (Z := Cls w F [.obj pb0 [p0_safe, p0_seen, p0_late, .int .i64 a0_left] 54, .obj gb15 [.int .i64 gx16, st gs17, .int .i64 gx18] 62, .sl gv6 9 1 (gl7.map SR), .sl p0_safe 9 1 (a0_safe.map SR), .sl p0_seen 9 1 (a0_seen.map SR), .sl p0_late 75 2 (a0_late.map Twrite.row)]) [] (by kernel_rfl) rfl (Zc.on (fun _ hw => hw.sel [0, 2, 3, 4, 5, 6] (by decide) rfl) (Zc.fin (fun _ hw => hw)))) rfl rfl rfl (Y.fieldP fd62_2 rfl) ?_
          refine V2.y (i := 5) (Nx2.of (Z := Cls w F [.obj pb0 [p0_safe, p0_seen, p0_late, .int .i64 a0_left] 54, .obj gb15 [.int .i64 gx16, st gs17, .int .i64 gx18] 62, .sl gv6 9 1 (gl7.map SR), .sl p0_safe 9 1 (a0_safe.map SR), .sl p0_seen 9 1 (a0_seen.map SR), .sl p0_late 75 2 (a0_late.map Twrite.row)]) [] (by kernel_rfl) rfl (Zc.on (fun _ hw => hw.sel [0, 2, 3, 4, 5, 6] (by decide) rfl) (Zc.fin (fun _ hw => hw)))) rfl rfl rfl (Y.loadP (i := 1) ag3 rfl rfl rfl) ?_
          refine V2.m (i := 6) (V' := fun x19 => .int .i64 x19) h (Nx2.of (Z := Cls w F [.obj pb0 [p0_safe, p0_seen, p0_late, .int .i64 a0_left] 54, .obj gb15 [.int .i64 gx16, st gs17, .int .i64 gx18] 62, .sl gv6 9 1 (gl7.map SR), .sl p0_safe 9 1 (a0_safe.map SR), .sl p0_seen 9 1 (a0_seen.map SR), .sl p0_late 75 2 (a0_late.map Twrite.row)]) [] (by kernel_rfl) rfl (Zc.on (fun _ hw => hw.sel [0, 2, 3, 4, 5, 6] (by decide) rfl) (Zc.fin (fun _ hw => hw)))) rfl rfl rfl (Y.addM rfl rfl) (fun x19 ex19 h => ?_)
          refine V2.nilc (i := 7) (Nx2.of (Z := Cls w F [.obj pb0 [p0_safe, p0_seen, p0_late, .int .i64 a0_left] 54, .obj gb15 [.int .i64 gx16, st gs17, .int .i64 gx18] 62, .sl gv6 9 1 (gl7.map SR), .sl p0_safe 9 1 (a0_safe.map SR), .sl p0_seen 9 1 (a0_seen.map SR), .sl p0_late 75 2 (a0_late.map Twrite.row)]) [] (by kernel_rfl) rfl (Zc.on (fun _ hw => hw.sel [0, 2, 3, 4, 5, 6] (by decide) rfl) (Zc.fin (fun _ hw => hw)))) rfl rfl rfl ?_
          refine V2.y (i := 8) (Nx2.of (Z := Cls w F [.obj pb0 [p0_safe, p0_seen, p0_late, .int .i64 a0_left] 54, .obj gb15 [.int .i64 gx16, st gs17, .int .i64 gx18] 62, .sl gv6 9 1 (gl7.map SR), .sl p0_safe 9 1 (a0_safe.map SR), .sl p0_seen 9 1 (a0_seen.map SR), .sl p0_late 75 2 (a0_late.map Twrite.row)]) [] (by kernel_rfl) rfl (Zc.on (fun _ hw => hw.sel [0, 2, 3, 4, 5, 6] (by decide) rfl) (Zc.fin (fun _ hw => hw)))) rfl rfl rfl (Y.fieldP fd58_4 rfl) ?_
          refine V2.eff (i := 9) (by kernel_rfl) rfl ?_
          refine L.store (i := 1) (vs := [.int .i64 x19]) sz3 rfl rfl rfl rfl (by simp [Value.oneCell', Value.cells, st, pt, el]) rfl (Nat.le_of_ble_eq_true rfl) ?_
          refine L.nil (E.toV2 (stC [] [] (Cls w F [.obj pb0 [p0_safe, p0_seen, p0_late, .int .i64 a0_left] 54, .obj gb15 [.int .i64 gx16, st gs17, .int .i64 gx18] 62, .sl gv6 9 1 (gl7.map SR), .sl p0_safe 9 1 (a0_safe.map SR), .sl p0_seen 9 1 (a0_seen.map SR), .sl p0_late 75 2 (a0_late.map Twrite.row)])) 9 (by kernel_rfl) (Sc.past rfl (Sc.stayD (fun _ hw => hw))) (Sc.atD (fun _ hw => hw.sel [0, 2, 3, 4, 5, 6] (by decide) rfl)) ?_)
          refine V2.done (by kernel_rfl) ?_
          refine E.thenN (W.region (L.y rfl (Y.move rfl) ?_))
          refine L.y rfl (Y.fieldP fd62_1 rfl) ?_
          refine L.y rfl (Y.loadP (i := 2) ag9 rfl rfl rfl) ?_
          refine L.litOne rfl Tryd.underlying30 eL9 rfl rfl ?_
          intro b20
          refine L.appM (i := 4) (g := SR) (l := gl7) (more := [gs17]) h rfl Tryd.underlying30 eL9 rfl rfl rfl (fun w hw => As.at_ (hw.get (i := 0) rfl)) (plain_SR _) rfl ?_
          intro v21 l22 el22 h
          refine L.y rfl (Y.assign rfl) ?_
          exact L.nil (E.blockN (E.joinJ ⟨v21, l22, gx16, x19, rfl, rfl, h⟩ ⟨rfl, rfl, rfl, trivial⟩ (fun _ hw => hw.sel [2, 3, 0, 5, 6, 7] (by decide) rfl)))
      ·
       rintro _ _ ⟨gv11, gl12, gx13, gx14, rfl, rfl, h⟩
       rw [m6_wal_Open_K5] at h
       refine W.region (L.y rfl (Y.move rfl) ?_)
       refine L.y rfl (Y.nilCheck rfl) ?_
       refine L.y rfl (Y.fieldP fd58_5 rfl) ?_
       refine L.y rfl (Y.loadP (i := 1) ag3 rfl rfl rfl) ?_
       refine L.m (V := fun x17 => .int .i64 x17) h rfl (Y.addM rfl rfl) (fun x17 ex17 h => ?_)
       refine L.y rfl (Y.nilCheck rfl) ?_
       refine L.y rfl (Y.fieldP fd58_5 rfl) ?_
       refine L.store (i := 1) (vs := [.int .i64 x17]) sz3 rfl rfl rfl rfl (by simp [Value.oneCell', Value.cells, st, pt, el]) rfl (Nat.le_of_ble_eq_true rfl) ?_
       exact L.nil (E.againJ ⟨gv11, gl12, gx13, gx14, x17, rfl, rfl, by rw [hg1]; exact h⟩ (Nat.lt_succ_self _) ⟨rfl, rfl, rfl, trivial⟩ (fun _ hw => hw))
     ·
      rintro _ _ ⟨gv2, gl3, gx4, gx5, rfl, rfl, h⟩
      rw [m6_wal_Open_K4] at h
      refine W.seq (W.seq (W.region (L.y rfl (Y.move rfl) ?_)))
      refine L.to (D := Cls w F [.obj b1 [pt pb0 0, .int .i64 a1, .int .i64 a2, .int .i64 gx1, .int .i64 gx4, .int .i64 gx5, .bool false] 58, .obj pb0 [p0_safe, p0_seen, p0_late, .int .i64 a0_left] 54, .sl p0_safe 9 1 (a0_safe.map SR), .sl p0_seen 9 1 (a0_seen.map SR), .sl p0_late 75 2 (a0_late.map Twrite.row), .sl gv2 9 1 (gl3.map SR)]) (fun _ hw => hw.sel [1, 0, 3, 4, 5, 2] (by decide) rfl) ?_
      obtain ⟨l5, l6, l7, x8, x9, b10, x11, e12, h⟩ := bind7S h
      refine L.doesP (A := [.obj b1 [pt pb0 0, .int .i64 a1, .int .i64 a2, .int .i64 gx1, .int .i64 gx4, .int .i64 gx5, .bool false] 58, .obj pb0 [p0_safe, p0_seen, p0_late, .int .i64 a0_left] 54, .sl p0_safe 9 1 (a0_safe.map SR), .sl p0_seen 9 1 (a0_seen.map SR), .sl p0_late 75 2 (a0_late.map Twrite.row)]) (M := [.sl gv2 9 1 (gl3.map SR)]) rfl en27 rfl (fun w' hw => w27_wal_Log_raise a0_safe a0_seen a0_late a0_left a1 a2 gx1 gx4 gx5 false b1 pb0 p0_safe p0_seen p0_late w' _ e12 _ hw.lend) ?_
      rintro _ _ ⟨v13, v14, v15, rfl, rfl⟩
      refine L.to (D := Cls w F [.obj b1 [pt pb0 0, .int .i64 a1, .int .i64 a2, .int .i64 x9, .int .i64 gx4, .int .i64 gx5, .bool b10] 58, .obj pb0 [v13, v14, v15, .int .i64 x8] 54, .sl v13 9 1 (l5.map SR), .sl v14 9 1 (l6.map SR), .sl v15 75 2 (l7.map Twrite.row), .sl gv2 9 1 (gl3.map SR)]) (fun _ hw => hw) ?_
      refine L.y rfl (Y.assign rfl) ?_
      refine L.nil (E.thenN (W.seq (W.region (L.y rfl (Y.move rfl) ?_))))
      refine L.ite h rfl (Y.neq rfl rfl) (fun c16 h => ?_) (fun c16 h => ?_)
      ·
       refine L.nil (E.thenN (W.condT rfl ?_))
       refine W.seq (W.region (L.y rfl (Y.move rfl) ?_))
       refine L.y rfl (Y.assign rfl) ?_
       refine L.y rfl (Y.assign rfl) ?_
       refine L.y rfl (Y.assign rfl) ?_
       refine L.nil (E.thenN (W.ret (E.thenR (E.ret3 rfl rfl rfl rfl (fun w1 hw => ?_)))))
       obtain rfl := Option.some.inj h
       exact ⟨_, _, rfl, ⟨_, _, _, _, rfl, rfl⟩, (hw.nilSl 9 1).sel [2, 3, 4, 5, 0] (by decide) rfl⟩
      ·
       refine L.nil (E.thenN (W.condF rfl ?_))
       refine W.skip (E.thenN (W.seq (W.region (L.y rfl (Y.move rfl) ?_))))
       refine L.y rfl (Y.move rfl) ?_
       refine L.y rfl (Y.assign rfl) ?_
       refine L.y rfl (Y.assign rfl) ?_
       refine L.y rfl (Y.assign rfl) ?_
       refine L.nil (E.thenN (W.ret (E.ret3 rfl rfl rfl rfl (fun w1 hw => ?_))))
       obtain rfl := Option.some.inj h
       exact ⟨_, _, rfl, ⟨_, _, _, _, _, rfl, rfl⟩, hw⟩
set_option maxRecDepth 100000 in
set_option maxHeartbeats 8000000 in
theorem w58_quirref_GetNat (a0 : (List UInt8)) (w : World) (r : (Int × Int × Int)) (h : m58_quirref_GetNat a0 = some r) : Does Tryd.prog 58 [st a0] w fun u m => u = .tuple #[.int .u64 r.1, .int .i64 r.2.1, .int .i64 r.2.2] ∧ m = [] := by
  rw [m58_quirref_GetNat] at h
  refine body (n := 50) Tryd.func58 rfl rfl rfl (Cls.refl w) ?_
  refine W.seq (W.region (L.y rfl (Y.assign rfl) ?_))
  refine L.y rfl (Y.assign rfl) ?_
  refine L.y rfl (Y.assign rfl) ?_
  refine L.nil (E.thenN (W.seqJ (fun gs D => gs = [] ∧ D = Cls w [] [] ∧ m58_quirref_GetNat_K1 = some r) ?_ ?_))
  ·
   refine W.seq (W.region (L.y rfl (Y.move rfl) ?_))
   refine L.y rfl (Y.lenS Tryd.underlying9 rfl) ?_
   refine L.y rfl (Y.move rfl) ?_
   refine L.nil (E.thenN (W.block (W.loopJ (fun m gs D => ∃ (gx1 : Int), gs = [(0, st a0), (9, .int .i64 (a0.length : Int)), (10, .int .i64 gx1)] ∧ D = Cls w [] [] ∧ m58_quirref_GetNat_L1 a0 m gx1 = some r) ⟨0, rfl, rfl, h⟩ ⟨rfl, rfl, rfl, trivial⟩ (fun _ hw => hw) ?_)))
   rintro m _ _ ⟨gx1, rfl, rfl, h⟩
   rcases m with _ | m
   · rw [m58_quirref_GetNat_L1] at h; cases h
   rw [m58_quirref_GetNat_L1] at h
   generalize hg1 : m58_quirref_GetNat_L1 a0 m = go1 at h
   rw [m58_quirref_GetNat_L1B] at h
   refine W.seq (W.region (L.ite h rfl (Y.lss rfl rfl) (fun c1 h => ?_) (fun c1 h => ?_)))
   ·
    refine L.nil (E.thenN (W.seq (W.condT rfl ?_)))
    refine W.skip (E.thenN (W.seqJ (fun gs D => gs = [(0, st a0), (9, .int .i64 (a0.length : Int)), (10, .int .i64 gx1)] ∧ D = Cls w [] [] ∧ m58_quirref_GetNat_K2 gx1 go1 = some r) ?_ ?_))
    ·
     refine W.block (W.seq (W.region (L.y rfl (Y.move rfl) ?_)))
     refine L.y rfl (Y.assign rfl) ?_
     refine L.nil (E.thenN (W.seqJ (fun gs D => gs = [(0, st a0), (5, .int .i64 gx1), (9, .int .i64 (a0.length : Int)), (10, .int .i64 gx1)] ∧ D = Cls w [] [] ∧ m58_quirref_GetNat_K3 a0 gx1 go1 = some r) ?_ ?_))
     ·
      refine W.seq (W.region (L.y rfl (Y.move rfl) ?_))
      refine L.ite h rfl (Y.eql rfl rfl) (fun c13 h => ?_) (fun c13 h => ?_)
      ·
       refine L.y rfl (Y.move rfl) ?_
       refine L.take rfl (L.y rfl (Y.move rfl) ?_)
       refine L.take rfl (L.y rfl (Y.move rfl) ?_)
       refine L.take rfl (L.m (V := fun x14 => .int .u8 x14) h rfl (Y.indexSM Tryd.underlying9 rfl rfl) (fun x14 ex14 h => ?_))
       refine L.take rfl (L.ite h rfl (Y.gtr rfl rfl) (fun c15 h => ?_) (fun c15 h => ?_))
       ·
        refine L.y rfl (Y.pickT rfl rfl) ?_
        refine L.nil (E.thenN (W.condT rfl ?_))
        refine W.seq (W.region (L.y rfl (Y.assign rfl) ?_))
        refine L.y rfl (Y.assign rfl) ?_
        refine L.y rfl (Y.assign rfl) ?_
        refine L.nil (E.thenN (W.ret (E.KSR (E.blockR (E.KSR (E.KLR (E.blockR (E.KSR (E.ret3 rfl rfl rfl rfl (fun w1 hw => ?_))))))))))
        obtain rfl := Option.some.inj h
        exact ⟨_, _, rfl, ⟨rfl, rfl⟩, hw⟩
       ·
        refine L.y rfl (Y.pickT rfl rfl) ?_
        refine L.nil (E.thenN (W.condF rfl ?_))
        exact W.skip (E.joinJ ⟨rfl, rfl, h⟩ ⟨rfl, rfl, rfl, rfl, trivial⟩ (fun _ hw => hw))
      ·
       refine L.y rfl (Y.move rfl) ?_
       refine L.pass rfl rfl (by nofun) ?_
       refine L.pass rfl rfl (by nofun) ?_
       refine L.pass rfl rfl (by nofun) ?_
       refine L.pass rfl rfl (by nofun) ?_
       refine L.y rfl (Y.pickF rfl rfl) ?_
       refine L.nil (E.thenN (W.condF rfl ?_))
       exact W.skip (E.joinJ ⟨rfl, rfl, h⟩ ⟨rfl, rfl, rfl, rfl, trivial⟩ (fun _ hw => hw))
     ·
      rintro _ _ ⟨rfl, rfl, h⟩
      rw [m58_quirref_GetNat_K3] at h
      refine W.seqJ (fun gs D => gs = [(0, st a0), (5, .int .i64 gx1)] ∧ D = Cls w [] [] ∧ m58_quirref_GetNat_K4 a0 gx1 = some r) ?_ ?_
      ·
       refine W.seq (W.region (L.y rfl (Y.move rfl) ?_))
       refine L.y rfl (Y.move rfl) ?_
       refine L.m (V := fun x11 => .int .u8 x11) h rfl (Y.indexSM Tryd.underlying9 rfl rfl) (fun x11 ex11 h => ?_)
       refine L.ite h rfl (Y.geq rfl rfl) (fun c12 h => ?_) (fun c12 h => ?_)
       ·
        refine L.nil (E.thenN (W.condT rfl ?_))
        exact W.exit (E.KSX (E.blockX (E.joinJ ⟨rfl, rfl, h⟩ ⟨rfl, rfl, rfl, trivial⟩ (fun _ hw => hw))))
       ·
        refine L.nil (E.thenN (W.condF rfl ?_))
        exact W.skip (E.joinJ ⟨rfl, rfl, h⟩ ⟨rfl, rfl, trivial⟩ (fun _ hw => hw))
      ·
       rintro _ _ ⟨rfl, rfl, h⟩
       rw [m58_quirref_GetNat_K4] at h
       refine W.seqJ (fun gs D => gs = [(0, st a0), (5, .int .i64 gx1)] ∧ D = Cls w [] [] ∧ m58_quirref_GetNat_K5 a0 gx1 = some r) ?_ ?_
       ·
        refine W.seq (W.region (L.y rfl (Y.move rfl) ?_))
        refine L.y rfl (Y.move rfl) ?_
        refine L.m (V := fun x8 => .int .u8 x8) h rfl (Y.indexSM Tryd.underlying9 rfl rfl) (fun x8 ex8 h => ?_)
        refine L.ite h rfl (Y.eql rfl rfl) (fun c9 h => ?_) (fun c9 h => ?_)
        ·
         refine L.y rfl (Y.move rfl) ?_
         refine L.take rfl (L.y rfl (Y.move rfl) ?_)
         refine L.take rfl (L.ite h rfl (Y.gtr rfl rfl) (fun c10 h => ?_) (fun c10 h => ?_))
         ·
          refine L.y rfl (Y.pickT rfl rfl) ?_
          refine L.nil (E.thenN (W.condT rfl ?_))
          refine W.seq (W.region (L.y rfl (Y.assign rfl) ?_))
          refine L.y rfl (Y.assign rfl) ?_
          refine L.y rfl (Y.assign rfl) ?_
          refine L.nil (E.thenN (W.ret (E.KSR (E.blockR (E.KSR (E.KLR (E.blockR (E.KSR (E.ret3 rfl rfl rfl rfl (fun w1 hw => ?_))))))))))
          obtain rfl := Option.some.inj h
          exact ⟨_, _, rfl, ⟨rfl, rfl⟩, hw⟩
         ·
          refine L.y rfl (Y.pickT rfl rfl) ?_
          refine L.nil (E.thenN (W.condF rfl ?_))
          exact W.skip (E.joinJ ⟨rfl, rfl, h⟩ ⟨rfl, rfl, trivial⟩ (fun _ hw => hw))
        ·
         refine L.y rfl (Y.move rfl) ?_
         refine L.pass rfl rfl (by nofun) ?_
         refine L.pass rfl rfl (by nofun) ?_
         refine L.y rfl (Y.pickF rfl rfl) ?_
         refine L.nil (E.thenN (W.condF rfl ?_))
         exact W.skip (E.joinJ ⟨rfl, rfl, h⟩ ⟨rfl, rfl, trivial⟩ (fun _ hw => hw))
       ·
        rintro _ _ ⟨rfl, rfl, h⟩
        rw [m58_quirref_GetNat_K5] at h
        refine W.seq (W.region (L.y rfl (Y.assign rfl) ?_))
        refine L.nil (E.thenN (W.seqJ (fun gs D => ∃ (gx2 : Int), gs = [(5, .int .i64 gx1), (6, .int .u64 gx2)] ∧ D = Cls w [] [] ∧ m58_quirref_GetNat_K6 gx1 gx2 = some r) ?_ ?_))
        ·
         refine W.seq (W.region (L.y rfl (Y.move rfl) ?_))
         refine L.y rfl (Y.assign rfl) ?_
         refine L.nil (E.thenN (W.block (W.loopJ (fun m gs D => ∃ (gx3 : Int) (gx4 : Int), gs = [(0, st a0), (5, .int .i64 gx1), (6, .int .u64 gx3), (7, .int .i64 gx4)] ∧ D = Cls w [] [] ∧ m58_quirref_GetNat_L2 a0 gx1 m gx3 gx4 = some r) ⟨0, gx1, rfl, rfl, h⟩ ⟨rfl, rfl, rfl, rfl, trivial⟩ (fun _ hw => hw) ?_)))
         rintro m _ _ ⟨gx3, gx4, rfl, rfl, h⟩
         rcases m with _ | m
         · rw [m58_quirref_GetNat_L2] at h; cases h
         rw [m58_quirref_GetNat_L2] at h
         generalize hg2 : m58_quirref_GetNat_L2 a0 gx1 m = go2 at h
         rw [m58_quirref_GetNat_L2B] at h
         refine W.seq (W.seq (W.region (L.y rfl (Y.move rfl) ?_)))
         refine L.ite h rfl (Y.geq rfl rfl) (fun c4 h => ?_) (fun c4 h => ?_)
         ·
          refine L.nil (E.thenN (W.condT rfl ?_))
          refine W.skip (E.thenN (W.seq (W.block (W.region (L.y rfl (Y.move rfl) ?_)))))
          refine L.y rfl (Y.mulW rfl rfl) ?_
          refine L.y rfl (Y.move rfl) ?_
          refine L.y rfl (Y.move rfl) ?_
          refine L.m (V := fun x5 => .int .u8 x5) h rfl (Y.indexSM Tryd.underlying9 rfl rfl) (fun x5 ex5 h => ?_)
          refine L.m (V := fun x6 => .int .u8 x6) h rfl (Y.remM rfl rfl) (fun x6 ex6 h => ?_)
          refine L.y rfl (Y.conv Tryd.underlying5 Tryd.underlying95 rfl) ?_
          refine L.y rfl (Y.addW rfl rfl) ?_
          refine L.y rfl (Y.assign rfl) ?_
          refine L.nil (E.blockN (E.thenN (W.region (L.y rfl (Y.move rfl) ?_))))
          refine L.m (V := fun x7 => .int .i64 x7) h rfl (Y.subM rfl rfl) (fun x7 ex7 h => ?_)
          refine L.y rfl (Y.assign rfl) ?_
          exact L.nil (E.againJ ⟨IntKind.wrap .u64 ((IntKind.wrap .u64 (gx3 * 128)) + (IntKind.wrap .u64 x6)), x7, rfl, rfl, by rw [hg2]; exact h⟩ (Nat.lt_succ_self _) ⟨rfl, rfl, rfl, rfl, trivial⟩ (fun _ hw => hw))
         ·
          refine L.nil (E.thenN (W.condF rfl ?_))
          exact W.exit (E.thenX (E.KLX (E.blockX (E.joinJ ⟨gx3, rfl, rfl, h⟩ ⟨rfl, rfl, trivial⟩ (fun _ hw => hw)))))
        ·
         rintro _ _ ⟨gx2, rfl, rfl, h⟩
         rw [m58_quirref_GetNat_K6] at h
         refine W.seq (W.region (L.y rfl (Y.move rfl) ?_))
         refine L.y rfl (Y.move rfl) ?_
         refine L.m (V := fun x3 => .int .i64 x3) h rfl (Y.addM rfl rfl) (fun x3 ex3 h => ?_)
         refine L.y rfl (Y.assign rfl) ?_
         refine L.y rfl (Y.assign rfl) ?_
         refine L.y rfl (Y.assign rfl) ?_
         refine L.nil (E.thenN (W.ret (E.blockR (E.KSR (E.KLR (E.blockR (E.KSR (E.ret3 rfl rfl rfl rfl (fun w1 hw => ?_)))))))))
         obtain rfl := Option.some.inj h
         exact ⟨_, _, rfl, ⟨rfl, rfl⟩, hw⟩
    ·
     rintro _ _ ⟨rfl, rfl, h⟩
     rw [m58_quirref_GetNat_K2] at h
     refine W.region (L.m (V := fun x2 => .int .i64 x2) h rfl (Y.addM rfl rfl) (fun x2 ex2 h => ?_))
     refine L.y rfl (Y.move rfl) ?_
     exact L.nil (E.againJ ⟨x2, rfl, rfl, by rw [hg1]; exact h⟩ (Nat.lt_succ_self _) ⟨rfl, rfl, rfl, trivial⟩ (fun _ hw => hw))
   ·
    refine L.nil (E.thenN (W.seq (W.condF rfl ?_)))
    exact W.exit (E.thenX (E.KLX (E.blockX (E.joinJ ⟨rfl, rfl, h⟩ trivial (fun _ hw => hw)))))
  ·
   rintro _ _ ⟨rfl, rfl, h⟩
   rw [m58_quirref_GetNat_K1] at h
   refine W.seq (W.region (L.y rfl (Y.assign rfl) ?_))
   refine L.y rfl (Y.assign rfl) ?_
   refine L.y rfl (Y.assign rfl) ?_
   refine L.nil (E.thenN (W.ret (E.ret3 rfl rfl rfl rfl (fun w1 hw => ?_))))
   obtain rfl := Option.some.inj h
   exact ⟨_, _, rfl, ⟨rfl, rfl⟩, hw⟩
set_option maxRecDepth 100000 in
set_option maxHeartbeats 8000000 in
theorem w56_quirref_GetInt (a0 : (List UInt8)) (w : World) (r : (Int × Int × Int)) (h : m56_quirref_GetInt a0 = some r) : Does Tryd.prog 56 [st a0] w fun u m => u = .tuple #[.int .i64 r.1, .int .i64 r.2.1, .int .i64 r.2.2] ∧ m = [] := by
  rw [m56_quirref_GetInt] at h
  refine body (n := 30) Tryd.func56 rfl rfl rfl (Cls.refl w) ?_
  refine W.seq (W.region (L.y rfl (Y.assign rfl) ?_))
  refine L.y rfl (Y.assign rfl) ?_
  refine L.y rfl (Y.assign rfl) ?_
  refine L.nil (E.thenN (W.seq (W.region (L.y rfl (Y.move rfl) ?_))))
  obtain ⟨x1, x2, x3, e4, h⟩ := bind3S h
  refine L.y rfl (Y.does en58 rfl (fun w' hw => (w58_quirref_GetNat a0 w' _ e4).mono (fun _ _ h => h.1))) ?_
  refine L.y rfl (Y.move rfl) ?_
  refine L.y rfl (Y.extract rfl rfl) ?_
  refine L.y rfl (Y.extract rfl rfl) ?_
  refine L.y rfl (Y.extract rfl rfl) ?_
  refine L.y rfl (Y.assign rfl) ?_
  refine L.y rfl (Y.assign rfl) ?_
  refine L.y rfl (Y.assign rfl) ?_
  refine L.nil (E.thenN (W.seqJ (fun gs D => gs = [(5, .int .u64 x1), (6, .int .i64 x2)] ∧ D = Cls w [] [] ∧ m56_quirref_GetInt_K1 x1 x2 = some r) ?_ ?_))
  ·
   refine W.seq (W.region (L.y rfl (Y.move rfl) ?_))
   refine L.ite h rfl (Y.neq rfl rfl) (fun c10 h => ?_) (fun c10 h => ?_)
   ·
    refine L.nil (E.thenN (W.condT rfl ?_))
    refine W.seq (W.region (L.y rfl (Y.move rfl) ?_))
    refine L.y rfl (Y.assign rfl) ?_
    refine L.y rfl (Y.assign rfl) ?_
    refine L.y rfl (Y.assign rfl) ?_
    refine L.nil (E.thenN (W.ret (E.KSR (E.ret3 rfl rfl rfl rfl (fun w1 hw => ?_)))))
    obtain rfl := Option.some.inj h
    exact ⟨_, _, rfl, ⟨rfl, rfl⟩, hw⟩
   ·
    refine L.nil (E.thenN (W.condF rfl ?_))
    exact W.skip (E.joinJ ⟨rfl, rfl, h⟩ ⟨rfl, rfl, trivial⟩ (fun _ hw => hw))
  ·
   rintro _ _ ⟨rfl, rfl, h⟩
   rw [m56_quirref_GetInt_K1] at h
   refine W.seq (W.seq (W.region (L.y rfl (Y.move rfl) ?_)))
   refine L.m (V := fun x5 => .int .u64 x5) h rfl (Y.remM rfl rfl) (fun x5 ex5 h => ?_)
   refine L.ite h rfl (Y.eql rfl rfl) (fun c6 h => ?_) (fun c6 h => ?_)
   ·
    refine L.nil (E.thenN (W.condT rfl ?_))
    refine W.seq (W.region (L.y rfl (Y.move rfl) ?_))
    refine L.m (V := fun x7 => .int .u64 x7) h rfl (Y.quoM rfl rfl) (fun x7 ex7 h => ?_)
    refine L.y rfl (Y.conv Tryd.underlying95 Tryd.underlying3 rfl) ?_
    refine L.y rfl (Y.neg rfl) ?_
    refine L.m (V := fun x8 => .int .i64 x8) h rfl (Y.subM rfl rfl) (fun x8 ex8 h => ?_)
    refine L.y rfl (Y.move rfl) ?_
    refine L.y rfl (Y.assign rfl) ?_
    refine L.y rfl (Y.assign rfl) ?_
    refine L.y rfl (Y.assign rfl) ?_
    refine L.nil (E.thenN (W.ret (E.thenR (E.ret3 rfl rfl rfl rfl (fun w1 hw => ?_)))))
    obtain rfl := Option.some.inj h
    exact ⟨_, _, rfl, ⟨rfl, rfl⟩, hw⟩
   ·
    refine L.nil (E.thenN (W.condF rfl ?_))
    refine W.skip (E.thenN (W.seq (W.region (L.y rfl (Y.move rfl) ?_))))
    refine L.m (V := fun x9 => .int .u64 x9) h rfl (Y.quoM rfl rfl) (fun x9 ex9 h => ?_)
    refine L.y rfl (Y.conv Tryd.underlying95 Tryd.underlying3 rfl) ?_
    refine L.y rfl (Y.move rfl) ?_
    refine L.y rfl (Y.assign rfl) ?_
    refine L.y rfl (Y.assign rfl) ?_
    refine L.y rfl (Y.assign rfl) ?_
    refine L.nil (E.thenN (W.ret (E.ret3 rfl rfl rfl rfl (fun w1 hw => ?_))))
    obtain rfl := Option.some.inj h
    exact ⟨_, _, rfl, ⟨rfl, rfl⟩, hw⟩
set_option maxRecDepth 100000 in
set_option maxHeartbeats 8000000 in
theorem w83_quirref_NatR : ∀ (n : Nat) (a0 : Int) (w : World) (r : (List UInt8)) (h : m83_quirref_NatR n a0 = some r), Does Tryd.prog 83 [.int .u64 a0] w fun u m => u = st r ∧ m = [] := by
  intro n
  induction n with
  | zero => intro a0 w r h; rw [m83_quirref_NatR] at h; cases h
  | succ n ih =>
  intro a0 w r h
  rw [m83_quirref_NatR] at h
  generalize m83_quirref_NatR n = rec at h ih
  rw [m83_quirref_NatB] at h
  refine body (n := 19) Tryd.func83 rfl rfl rfl (Cls.refl w) ?_
  refine W.seq (W.region (L.y rfl (Y.assign rfl) ?_))
  refine L.nil (E.thenN (W.seqJ (fun gs D => gs = [(0, .int .u64 a0)] ∧ D = Cls w [] [] ∧ m83_quirref_Nat_K1 a0 rec = some r) ?_ ?_))
  ·
   refine W.seq (W.region (L.y rfl (Y.move rfl) ?_))
   refine L.ite h rfl (Y.lss rfl rfl) (fun c11 h => ?_) (fun c11 h => ?_)
   ·
    refine L.nil (E.thenN (W.condT rfl ?_))
    refine W.seq (W.region (L.y rfl (Y.move rfl) ?_))
    refine L.y rfl (Y.conv Tryd.underlying95 Tryd.underlying5 rfl) ?_
    refine L.litOne rfl Tryd.underlying82 eL5 rfl rfl ?_
    intro b12
    refine L.y rfl (Y.convBytes (l := [IntKind.wrap .u8 a0]) Tryd.underlying82 Tryd.underlying5 Tryd.underlying9 rfl (fun w hw => As.at_ (hw.get (i := 0) rfl))) ?_
    refine L.y rfl (Y.assign rfl) ?_
    refine L.nil (E.thenN (W.ret (E.KSR (E.ret1 rfl rfl (fun w1 hw => ?_)))))
    obtain rfl := Option.some.inj h
    exact ⟨_, _, rfl, ⟨rfl, rfl⟩, hw.sel [] (by decide) rfl⟩
   ·
    refine L.nil (E.thenN (W.condF rfl ?_))
    exact W.skip (E.joinJ ⟨rfl, rfl, h⟩ ⟨rfl, trivial⟩ (fun _ hw => hw))
  ·
   rintro _ _ ⟨rfl, rfl, h⟩
   rw [m83_quirref_Nat_K1] at h
   refine W.seqJ (fun gs D => ∃ (gs1 : (List UInt8)), gs = [(2, st gs1)] ∧ D = Cls w [] [] ∧ m83_quirref_Nat_K2 gs1 = some r) ?_ ?_
   ·
    refine W.drawn2 (k := 11) (stC [] [] (Cls w [] [])) rfl mixed (fun _ hw => hw.drew) (Sc.atD (fun _ hw => hw)) ?_
    refine V2.y (i := 0) (Nx2.of (Z := Cls w [] []) [] (by kernel_rfl) rfl (Zc.fin (fun _ hw => hw))) rfl rfl rfl (Y.move rfl) ?_
    refine V2.m (i := 1) (V' := fun x1 => .int .u64 x1) h (Nx2.of (Z := Cls w [] []) [] (by kernel_rfl) rfl (Zc.fin (fun _ hw => hw))) rfl rfl rfl (Y.remM rfl rfl) (fun x1 ex1 h => ?_)
    refine V2.y (i := 2) (Nx2.of (Z := Cls w [] []) [] (by kernel_rfl) rfl (Zc.fin (fun _ hw => hw))) rfl rfl rfl (Y.addW rfl rfl) ?_
    refine V2.y (i := 3) (Nx2.of (Z := Cls w [] []) [] (by kernel_rfl) rfl (Zc.fin (fun _ hw => hw))) rfl rfl rfl (Y.conv Tryd.underlying95 Tryd.underlying5 rfl) ?_
    refine V2.y (i := 6) (Nx2.of (Z := Cls w [] []) [] (by kernel_rfl) rfl (Zc.fin (fun _ hw => hw))) rfl rfl rfl (Y.move rfl) ?_
    refine V2.m (i := 7) (V' := fun x2 => .int .u64 x2) h (Nx2.of (Z := Cls w [] []) [] (by kernel_rfl) rfl (Zc.fin (fun _ hw => hw))) rfl rfl rfl (Y.quoM rfl rfl) (fun x2 ex2 h => ?_)
    refine V2.eff2 (i1 := 4) (i2 := 8) (by kernel_rfl) rfl rfl ?_ ?_
    ·
     refine L.litOne rfl Tryd.underlying82 eL5 rfl rfl ?_
     intro b3
     refine L.nil (E.toV2 (stC [] [] (Cls w [] [.sl (sv b3 1) 5 1 (([IntKind.wrap .u8 (IntKind.wrap .u64 (x1 + 128))]).map (IK .u8))])) 4 (by kernel_rfl) (Sc.stayD (fun _ hw => hw.sel [] (by decide) rfl)) (Sc.atD (fun _ hw => hw)) ?_)
     refine V2.y (i := 5) (Nx2.of (Z := Cls w [] [.sl (sv b3 1) 5 1 (([IntKind.wrap .u8 (IntKind.wrap .u64 (x1 + 128))]).map (IK .u8))]) [] (by kernel_rfl) rfl (Zc.fin (fun _ hw => hw))) rfl rfl rfl (Y.convBytes (l := [IntKind.wrap .u8 (IntKind.wrap .u64 (x1 + 128))]) Tryd.underlying82 Tryd.underlying5 Tryd.underlying9 rfl (fun w hw => As.at_ (hw.get (i := 0) rfl))) ?_
     refine V2.eff (i := 8) (by kernel_rfl) rfl ?_
     obtain ⟨s4, e5, h⟩ := bind1S h
     refine L.y rfl (Y.does en83 rfl (fun w' hw => (ih x2 w' _ e5).mono (fun _ _ h => h.1))) ?_
     refine L.nil (E.toV2 (stC [] [] (Cls w [] [.sl (sv b3 1) 5 1 (([IntKind.wrap .u8 (IntKind.wrap .u64 (x1 + 128))]).map (IK .u8))])) 8 (by kernel_rfl) (Sc.stayD (fun _ hw => hw)) (Sc.atD (fun _ hw => hw)) ?_)
     refine V2.m (i := 9) (V' := fun s6 => st s6) h (Nx2.of (Z := Cls w [] [.sl (sv b3 1) 5 1 (([IntKind.wrap .u8 (IntKind.wrap .u64 (x1 + 128))]).map (IK .u8))]) [] (by kernel_rfl) rfl (Zc.fin (fun _ hw => hw))) rfl rfl rfl (Y.catM rfl rfl) (fun s6 es6 h => ?_)
     refine V2.y (i := 10) (Nx2.of (Z := Cls w [] [.sl (sv b3 1) 5 1 (([IntKind.wrap .u8 (IntKind.wrap .u64 (x1 + 128))]).map (IK .u8))]) [] (by kernel_rfl) rfl (Zc.fin (fun _ hw => hw))) rfl rfl rfl (Y.assign rfl) ?_
     refine V2.done (by kernel_rfl) ?_
     exact E.joinJ ⟨s6, rfl, rfl, h⟩ ⟨rfl, trivial⟩ (fun _ hw => hw.sel [] (by decide) rfl)
    ·
     obtain ⟨s7, e8, h⟩ := bind1S h
     refine L.y rfl (Y.does en83 rfl (fun w' hw => (ih x2 w' _ e8).mono (fun _ _ h => h.1))) ?_
     refine L.nil (E.toV2 (stC [] [] (Cls w [] [])) 8 (by kernel_rfl) (Sc.stayD (fun _ hw => hw)) (Sc.atD (fun _ hw => hw)) ?_)
     refine V2.eff (i := 4) (by kernel_rfl) rfl ?_
     refine L.litOne rfl Tryd.underlying82 eL5 rfl rfl ?_
     intro b9
     refine L.nil (E.toV2 (stC [] [] (Cls w [] [.sl (sv b9 1) 5 1 (([IntKind.wrap .u8 (IntKind.wrap .u64 (x1 + 128))]).map (IK .u8))])) 4 (by kernel_rfl) (Sc.stayD (fun _ hw => hw.sel [] (by decide) rfl)) (Sc.atD (fun _ hw => hw)) ?_)
     refine V2.y (i := 5) (Nx2.of (Z := Cls w [] [.sl (sv b9 1) 5 1 (([IntKind.wrap .u8 (IntKind.wrap .u64 (x1 + 128))]).map (IK .u8))]) [] (by kernel_rfl) rfl (Zc.fin (fun _ hw => hw))) rfl rfl rfl (Y.convBytes (l := [IntKind.wrap .u8 (IntKind.wrap .u64 (x1 + 128))]) Tryd.underlying82 Tryd.underlying5 Tryd.underlying9 rfl (fun w hw => As.at_ (hw.get (i := 0) rfl))) ?_
     refine V2.m (i := 9) (V' := fun s10 => st s10) h (Nx2.of (Z := Cls w [] [.sl (sv b9 1) 5 1 (([IntKind.wrap .u8 (IntKind.wrap .u64 (x1 + 128))]).map (IK .u8))]) [] (by kernel_rfl) rfl (Zc.fin (fun _ hw => hw))) rfl rfl rfl (Y.catM rfl rfl) (fun s10 es10 h => ?_)
     refine V2.y (i := 10) (Nx2.of (Z := Cls w [] [.sl (sv b9 1) 5 1 (([IntKind.wrap .u8 (IntKind.wrap .u64 (x1 + 128))]).map (IK .u8))]) [] (by kernel_rfl) rfl (Zc.fin (fun _ hw => hw))) rfl rfl rfl (Y.assign rfl) ?_
     refine V2.done (by kernel_rfl) ?_
     exact E.joinJ ⟨s10, rfl, rfl, h⟩ ⟨rfl, trivial⟩ (fun _ hw => hw.sel [] (by decide) rfl)
   ·
    rintro _ _ ⟨gs1, rfl, rfl, h⟩
    rw [m83_quirref_Nat_K2] at h
    refine W.ret (E.ret1 rfl rfl (fun w1 hw => ?_))
    obtain rfl := Option.some.inj h
    exact ⟨_, _, rfl, ⟨rfl, rfl⟩, hw⟩
theorem w83_quirref_Nat (a0 : Int) (w : World) (r : (List UInt8)) (h : m83_quirref_Nat a0 = some r) : Does Tryd.prog 83 [.int .u64 a0] w fun u m => u = st r ∧ m = [] := w83_quirref_NatR big a0 w r h
set_option maxRecDepth 100000 in
set_option maxHeartbeats 8000000 in
theorem w79_quirref_Int (a0 : Int) (w : World) (r : (List UInt8)) (h : m79_quirref_Int a0 = some r) : Does Tryd.prog 79 [.int .i64 a0] w fun u m => u = st r ∧ m = [] := by
  rw [m79_quirref_Int] at h
  refine body (n := 16) Tryd.func79 rfl rfl rfl (Cls.refl w) ?_
  refine W.seq (W.region (L.y rfl (Y.assign rfl) ?_))
  refine L.nil (E.thenN (W.seq (W.seq (W.region (L.y rfl (Y.move rfl) ?_)))))
  refine L.ite h rfl (Y.lss rfl rfl) (fun c1 h => ?_) (fun c1 h => ?_)
  ·
   refine L.nil (E.thenN (W.condT rfl ?_))
   refine W.seq (W.region (L.y rfl (Y.move rfl) ?_))
   refine L.m (V := fun x2 => .int .i64 x2) h rfl (Y.addM rfl rfl) (fun x2 ex2 h => ?_)
   refine L.y rfl (Y.neg rfl) ?_
   refine L.y rfl (Y.conv Tryd.underlying3 Tryd.underlying95 rfl) ?_
   refine L.y rfl (Y.mulW rfl rfl) ?_
   refine L.y rfl (Y.addW rfl rfl) ?_
   obtain ⟨s3, e4, h⟩ := bind1S h
   refine L.y rfl (Y.does en83 rfl (fun w' hw => (w83_quirref_Nat (IntKind.wrap .u64 ((IntKind.wrap .u64 ((IntKind.wrap .u64 (IntKind.wrap .i64 (-x2))) * 2)) + 1)) w' _ e4).mono (fun _ _ h => h.1))) ?_
   refine L.y rfl (Y.assign rfl) ?_
   refine L.nil (E.thenN (W.ret (E.thenR (E.ret1 rfl rfl (fun w1 hw => ?_)))))
   obtain rfl := Option.some.inj h
   exact ⟨_, _, rfl, ⟨rfl, rfl⟩, hw⟩
  ·
   refine L.nil (E.thenN (W.condF rfl ?_))
   refine W.skip (E.thenN (W.seq (W.region (L.y rfl (Y.move rfl) ?_))))
   refine L.y rfl (Y.conv Tryd.underlying3 Tryd.underlying95 rfl) ?_
   refine L.y rfl (Y.mulW rfl rfl) ?_
   obtain ⟨s5, e6, h⟩ := bind1S h
   refine L.y rfl (Y.does en83 rfl (fun w' hw => (w83_quirref_Nat (IntKind.wrap .u64 ((IntKind.wrap .u64 a0) * 2)) w' _ e6).mono (fun _ _ h => h.1))) ?_
   refine L.y rfl (Y.assign rfl) ?_
   refine L.nil (E.thenN (W.ret (E.ret1 rfl rfl (fun w1 hw => ?_))))
   obtain rfl := Option.some.inj h
   exact ⟨_, _, rfl, ⟨rfl, rfl⟩, hw⟩
end Go.Proofs.YtinchlfaepjfiaaDoor
