/-
  Walks, printed by a program of mine.
  Conditions: none.
-/
import Derived.Test.YtinchlfaepjfiaaDoorWlW2
import Derived.Test.YtinchlfaepjfiaaDoorChecked
import Derived.KernelRfl
import Derived.Test.YtinchlfaepjfiaaDoorSh
namespace Go.Proofs.YtinchlfaepjfiaaDoor
open Go.S
set_option linter.unusedVariables false
set_option linter.unusedSimpArgs false
set_option maxRecDepth 100000 in
set_option maxHeartbeats 8000000 in
theorem w10_quirref_Log_Append (a0_d_Seen : (List (List UInt8))) (a0_d_Safe : (List (List UInt8))) (a0_d_late : (List Int)) (a0_d_texts : (List (List UInt8))) (a0_d_left : Int) (a0_from : Int) (a0_size : Int) (a0_epoch : Int) (a0_at : Int) (a0_seq : Int) (a0_fell : Bool) (a1 : (List UInt8)) (pb0 : Nat) (pb0_d : Nat) (p0_d_Seen : Value) (p0_d_Safe : Value) (p0_d_late : Value) (p0_d_texts : Value) (w : World) (r : ((List (List UInt8)) × (List (List UInt8)) × (List Int) × (List (List UInt8)) × Int × Int × Int × Bool × Int)) (h : m10_quirref_Log_Append a0_d_Seen a0_d_Safe a0_d_late a0_d_texts a0_d_left a0_from a0_size a0_epoch a0_at a0_seq a0_fell a1 = some r) (F : List Nat) (hc0 : Cls w F [.obj pb0 [pt pb0_d 0, .int .i64 a0_from, .int .i64 a0_size, .int .i64 a0_epoch, .int .i64 a0_at, .int .i64 a0_seq, .bool a0_fell] 68, .obj pb0_d [p0_d_Seen, p0_d_Safe, p0_d_late, p0_d_texts, .int .i64 a0_d_left] 48, .sl p0_d_Seen 9 1 (a0_d_Seen.map SR), .sl p0_d_Safe 9 1 (a0_d_Safe.map SR), .sl p0_d_late 3 1 (a0_d_late.map I), .sl p0_d_texts 9 1 (a0_d_texts.map SR)] w) : DoesF Tryd.prog 10 [pt pb0 0, st a1] F w fun u m => ∃ y1 y2 y3 y4, u = .int .i64 r.2.2.2.2.2.2.2.2 ∧ m = [.obj pb0 [pt pb0_d 0, .int .i64 a0_from, .int .i64 a0_size, .int .i64 a0_epoch, .int .i64 r.2.2.2.2.2.1, .int .i64 r.2.2.2.2.2.2.1, .bool r.2.2.2.2.2.2.2.1] 68, .obj pb0_d [y1, y2, y3, y4, .int .i64 r.2.2.2.2.1] 48, .sl y1 9 1 (r.1.map SR), .sl y2 9 1 (r.2.1.map SR), .sl y3 3 1 (r.2.2.1.map I), .sl y4 9 1 (r.2.2.2.1.map SR)] := by
  rw [m10_quirref_Log_Append] at h
  refine body (n := 86) Tryd.func10 rfl rfl rfl hc0 ?_
  refine W.seq (W.region (L.y rfl (Y.assign rfl) ?_))
  refine L.nil (E.thenN (W.seqJ (fun gs D => gs = [(0, pt pb0 0), (1, st a1)] ∧ D = Cls w F [.obj pb0 [pt pb0_d 0, .int .i64 a0_from, .int .i64 a0_size, .int .i64 a0_epoch, .int .i64 a0_at, .int .i64 a0_seq, .bool a0_fell] 68, .obj pb0_d [p0_d_Seen, p0_d_Safe, p0_d_late, p0_d_texts, .int .i64 a0_d_left] 48, .sl p0_d_Seen 9 1 (a0_d_Seen.map SR), .sl p0_d_Safe 9 1 (a0_d_Safe.map SR), .sl p0_d_late 3 1 (a0_d_late.map I), .sl p0_d_texts 9 1 (a0_d_texts.map SR)] ∧ m10_quirref_Log_Append_K1 a1 a0_d_Seen a0_d_Safe a0_d_late a0_d_texts a0_d_left a0_at a0_seq a0_fell a0_epoch a0_size a0_from = some r) ?_ ?_))
  ·
   refine W.seq (W.region (L.y rfl (Y.move rfl) ?_))
   refine L.y rfl (Y.nilCheck rfl) ?_
   refine L.y rfl (Y.fieldP fd68_6 rfl) ?_
   refine L.iteB h rfl (Y.loadP (i := 0) ag4 rfl rfl rfl) (fun c71 h => ?_) (fun c71 h => ?_)
   ·
    refine L.nil (E.thenN (W.condT rfl ?_))
    refine W.seq (W.region (L.y rfl (Y.assign rfl) ?_))
    refine L.nil (E.thenN (W.ret (E.KSR (E.ret1 rfl rfl (fun w1 hw => ?_)))))
    obtain rfl := Option.some.inj h
    exact ⟨_, _, rfl, ⟨_, _, _, _, rfl, rfl⟩, hw⟩
   ·
    refine L.nil (E.thenN (W.condF rfl ?_))
    exact W.skip (E.joinJ ⟨rfl, rfl, h⟩ ⟨rfl, rfl, trivial⟩ (fun _ hw => hw))
  ·
   rintro _ _ ⟨rfl, rfl, h⟩
   rw [m10_quirref_Log_Append_K1] at h
   refine W.seqJ (fun gs D => gs = [(0, pt pb0 0), (1, st a1)] ∧ D = Cls w F [.obj pb0 [pt pb0_d 0, .int .i64 a0_from, .int .i64 a0_size, .int .i64 a0_epoch, .int .i64 a0_at, .int .i64 a0_seq, .bool a0_fell] 68, .obj pb0_d [p0_d_Seen, p0_d_Safe, p0_d_late, p0_d_texts, .int .i64 a0_d_left] 48, .sl p0_d_Seen 9 1 (a0_d_Seen.map SR), .sl p0_d_Safe 9 1 (a0_d_Safe.map SR), .sl p0_d_late 3 1 (a0_d_late.map I), .sl p0_d_texts 9 1 (a0_d_texts.map SR)] ∧ m10_quirref_Log_Append_K2 a0_epoch a0_seq a1 a0_size a0_at a0_d_Seen a0_d_Safe a0_d_late a0_d_texts a0_d_left a0_fell a0_from = some r) ?_ ?_
   ·
    refine W.seq (W.region (L.y rfl (Y.move rfl) ?_))
    refine L.y rfl (Y.lenS Tryd.underlying9 rfl) ?_
    refine L.ite h rfl (Y.gtr rfl rfl) (fun c70 h => ?_) (fun c70 h => ?_)
    ·
     refine L.nil (E.thenN (W.condT rfl ?_))
     refine W.seq (W.region (L.y rfl (Y.assign rfl) ?_))
     refine L.nil (E.thenN (W.ret (E.KSR (E.ret1 rfl rfl (fun w1 hw => ?_)))))
     obtain rfl := Option.some.inj h
     exact ⟨_, _, rfl, ⟨_, _, _, _, rfl, rfl⟩, hw⟩
    ·
     refine L.nil (E.thenN (W.condF rfl ?_))
     exact W.skip (E.joinJ ⟨rfl, rfl, h⟩ ⟨rfl, rfl, trivial⟩ (fun _ hw => hw))
   ·
    rintro _ _ ⟨rfl, rfl, h⟩
    rw [m10_quirref_Log_Append_K2] at h
    refine W.seq (W.drawn2 (k := 11) (stC [] [] (Cls w F [.obj pb0 [pt pb0_d 0, .int .i64 a0_from, .int .i64 a0_size, .int .i64 a0_epoch, .int .i64 a0_at, .int .i64 a0_seq, .bool a0_fell] 68, .obj pb0_d [p0_d_Seen, p0_d_Safe, p0_d_late, p0_d_texts, .int .i64 a0_d_left] 48, .sl p0_d_Seen 9 1 (a0_d_Seen.map SR), .sl p0_d_Safe 9 1 (a0_d_Safe.map SR), .sl p0_d_late 3 1 (a0_d_late.map I), .sl p0_d_texts 9 1 (a0_d_texts.map SR)])) rfl mixed (fun _ hw => hw.drew) (Sc.atD (fun _ hw => hw)) ?_)
    refine V2.y (i := 0) (Nx2.of (Z := Cls w F [.obj pb0 [pt pb0_d 0, .int .i64 a0_from, .int .i64 a0_size, .int .i64 a0_epoch, .int .i64 a0_at, .int .i64 a0_seq, .bool a0_fell] 68, .obj pb0_d [p0_d_Seen, p0_d_Safe, p0_d_late, p0_d_texts, .int .i64 a0_d_left] 48, .sl p0_d_Seen 9 1 (a0_d_Seen.map SR), .sl p0_d_Safe 9 1 (a0_d_Safe.map SR), .sl p0_d_late 3 1 (a0_d_late.map I), .sl p0_d_texts 9 1 (a0_d_texts.map SR)]) [] (by kernel_rfl) rfl (Zc.fin (fun _ hw => hw))) rfl rfl rfl (Y.move rfl) ?_
    refine V2.nilc (i := 1) (Nx2.of (Z := Cls w F [.obj pb0 [pt pb0_d 0, .int .i64 a0_from, .int .i64 a0_size, .int .i64 a0_epoch, .int .i64 a0_at, .int .i64 a0_seq, .bool a0_fell] 68, .obj pb0_d [p0_d_Seen, p0_d_Safe, p0_d_late, p0_d_texts, .int .i64 a0_d_left] 48, .sl p0_d_Seen 9 1 (a0_d_Seen.map SR), .sl p0_d_Safe 9 1 (a0_d_Safe.map SR), .sl p0_d_late 3 1 (a0_d_late.map I), .sl p0_d_texts 9 1 (a0_d_texts.map SR)]) [] (by kernel_rfl) rfl (Zc.fin (fun _ hw => hw))) rfl rfl rfl ?_
    refine V2.y (i := 2) (Nx2.of (Z := Cls w F [.obj pb0 [pt pb0_d 0, .int .i64 a0_from, .int .i64 a0_size, .int .i64 a0_epoch, .int .i64 a0_at, .int .i64 a0_seq, .bool a0_fell] 68, .obj pb0_d [p0_d_Seen, p0_d_Safe, p0_d_late, p0_d_texts, .int .i64 a0_d_left] 48, .sl p0_d_Seen 9 1 (a0_d_Seen.map SR), .sl p0_d_Safe 9 1 (a0_d_Safe.map SR), .sl p0_d_late 3 1 (a0_d_late.map I), .sl p0_d_texts 9 1 (a0_d_texts.map SR)]) [] (by kernel_rfl) rfl (Zc.fin (fun _ hw => hw))) rfl rfl rfl (Y.fieldP fd68_3 rfl) ?_
    refine V2.y (i := 3) (Nx2.of (Z := Cls w F [.obj pb0 [pt pb0_d 0, .int .i64 a0_from, .int .i64 a0_size, .int .i64 a0_epoch, .int .i64 a0_at, .int .i64 a0_seq, .bool a0_fell] 68, .obj pb0_d [p0_d_Seen, p0_d_Safe, p0_d_late, p0_d_texts, .int .i64 a0_d_left] 48, .sl p0_d_Seen 9 1 (a0_d_Seen.map SR), .sl p0_d_Safe 9 1 (a0_d_Safe.map SR), .sl p0_d_late 3 1 (a0_d_late.map I), .sl p0_d_texts 9 1 (a0_d_texts.map SR)]) [] (by kernel_rfl) rfl (Zc.fin (fun _ hw => hw))) rfl rfl rfl (Y.loadP (i := 0) ag3 rfl rfl rfl) ?_
    refine V2.y (i := 4) (Nx2.of (Z := Cls w F [.obj pb0 [pt pb0_d 0, .int .i64 a0_from, .int .i64 a0_size, .int .i64 a0_epoch, .int .i64 a0_at, .int .i64 a0_seq, .bool a0_fell] 68, .obj pb0_d [p0_d_Seen, p0_d_Safe, p0_d_late, p0_d_texts, .int .i64 a0_d_left] 48, .sl p0_d_Seen 9 1 (a0_d_Seen.map SR), .sl p0_d_Safe 9 1 (a0_d_Safe.map SR), .sl p0_d_late 3 1 (a0_d_late.map I), .sl p0_d_texts 9 1 (a0_d_texts.map SR)]) [] (by kernel_rfl) rfl (Zc.fin (fun _ hw => hw))) rfl rfl rfl (Y.move rfl) ?_
    refine V2.nilc (i := 5) (Nx2.of (Z := Cls w F [.obj pb0 [pt pb0_d 0, .int .i64 a0_from, .int .i64 a0_size, .int .i64 a0_epoch, .int .i64 a0_at, .int .i64 a0_seq, .bool a0_fell] 68, .obj pb0_d [p0_d_Seen, p0_d_Safe, p0_d_late, p0_d_texts, .int .i64 a0_d_left] 48, .sl p0_d_Seen 9 1 (a0_d_Seen.map SR), .sl p0_d_Safe 9 1 (a0_d_Safe.map SR), .sl p0_d_late 3 1 (a0_d_late.map I), .sl p0_d_texts 9 1 (a0_d_texts.map SR)]) [] (by kernel_rfl) rfl (Zc.fin (fun _ hw => hw))) rfl rfl rfl ?_
    refine V2.y (i := 6) (Nx2.of (Z := Cls w F [.obj pb0 [pt pb0_d 0, .int .i64 a0_from, .int .i64 a0_size, .int .i64 a0_epoch, .int .i64 a0_at, .int .i64 a0_seq, .bool a0_fell] 68, .obj pb0_d [p0_d_Seen, p0_d_Safe, p0_d_late, p0_d_texts, .int .i64 a0_d_left] 48, .sl p0_d_Seen 9 1 (a0_d_Seen.map SR), .sl p0_d_Safe 9 1 (a0_d_Safe.map SR), .sl p0_d_late 3 1 (a0_d_late.map I), .sl p0_d_texts 9 1 (a0_d_texts.map SR)]) [] (by kernel_rfl) rfl (Zc.fin (fun _ hw => hw))) rfl rfl rfl (Y.fieldP fd68_5 rfl) ?_
    refine V2.y (i := 7) (Nx2.of (Z := Cls w F [.obj pb0 [pt pb0_d 0, .int .i64 a0_from, .int .i64 a0_size, .int .i64 a0_epoch, .int .i64 a0_at, .int .i64 a0_seq, .bool a0_fell] 68, .obj pb0_d [p0_d_Seen, p0_d_Safe, p0_d_late, p0_d_texts, .int .i64 a0_d_left] 48, .sl p0_d_Seen 9 1 (a0_d_Seen.map SR), .sl p0_d_Safe 9 1 (a0_d_Safe.map SR), .sl p0_d_late 3 1 (a0_d_late.map I), .sl p0_d_texts 9 1 (a0_d_texts.map SR)]) [] (by kernel_rfl) rfl (Zc.fin (fun _ hw => hw))) rfl rfl rfl (Y.loadP (i := 0) ag3 rfl rfl rfl) ?_
    refine V2.y (i := 8) (Nx2.of (Z := Cls w F [.obj pb0 [pt pb0_d 0, .int .i64 a0_from, .int .i64 a0_size, .int .i64 a0_epoch, .int .i64 a0_at, .int .i64 a0_seq, .bool a0_fell] 68, .obj pb0_d [p0_d_Seen, p0_d_Safe, p0_d_late, p0_d_texts, .int .i64 a0_d_left] 48, .sl p0_d_Seen 9 1 (a0_d_Seen.map SR), .sl p0_d_Safe 9 1 (a0_d_Safe.map SR), .sl p0_d_late 3 1 (a0_d_late.map I), .sl p0_d_texts 9 1 (a0_d_texts.map SR)]) [] (by kernel_rfl) rfl (Zc.fin (fun _ hw => hw))) rfl rfl rfl (Y.move rfl) ?_
    refine V2.eff (i := 9) (by kernel_rfl) rfl ?_
    obtain ⟨l1, e3, h⟩ := bind1S h
    refine L.does rfl en35 rfl (fun w' hw => w35_quirref_recordSectors a0_epoch a0_seq a1 w' _ e3) ?_
    rintro v2 _ ⟨_, rfl, rfl⟩
    refine L.nil (E.toV2 (stC [] [] (Cls w F [.sl v2 9 1 (l1.map SR), .obj pb0 [pt pb0_d 0, .int .i64 a0_from, .int .i64 a0_size, .int .i64 a0_epoch, .int .i64 a0_at, .int .i64 a0_seq, .bool a0_fell] 68, .obj pb0_d [p0_d_Seen, p0_d_Safe, p0_d_late, p0_d_texts, .int .i64 a0_d_left] 48, .sl p0_d_Seen 9 1 (a0_d_Seen.map SR), .sl p0_d_Safe 9 1 (a0_d_Safe.map SR), .sl p0_d_late 3 1 (a0_d_late.map I), .sl p0_d_texts 9 1 (a0_d_texts.map SR)])) 9 (by kernel_rfl) (Sc.stayD (fun _ hw => hw.sel [1, 2, 3, 4, 5, 6] (by decide) rfl)) (Sc.atD (fun _ hw => hw)) ?_)
    refine V2.y (i := 10) (Nx2.of (Z := Cls w F [.sl v2 9 1 (l1.map SR), .obj pb0 [pt pb0_d 0, .int .i64 a0_from, .int .i64 a0_size, .int .i64 a0_epoch, .int .i64 a0_at, .int .i64 a0_seq, .bool a0_fell] 68, .obj pb0_d [p0_d_Seen, p0_d_Safe, p0_d_late, p0_d_texts, .int .i64 a0_d_left] 48, .sl p0_d_Seen 9 1 (a0_d_Seen.map SR), .sl p0_d_Safe 9 1 (a0_d_Safe.map SR), .sl p0_d_late 3 1 (a0_d_late.map I), .sl p0_d_texts 9 1 (a0_d_texts.map SR)]) [] (by kernel_rfl) rfl (Zc.fin (fun _ hw => hw))) rfl rfl rfl (Y.assign rfl) ?_
    refine V2.done (by kernel_rfl) ?_
    refine E.thenN (W.seqJ (fun gs D => gs = [(0, pt pb0 0), (5, v2)] ∧ D = Cls w F [.obj pb0 [pt pb0_d 0, .int .i64 a0_from, .int .i64 a0_size, .int .i64 a0_epoch, .int .i64 a0_at, .int .i64 a0_seq, .bool a0_fell] 68, .obj pb0_d [p0_d_Seen, p0_d_Safe, p0_d_late, p0_d_texts, .int .i64 a0_d_left] 48, .sl v2 9 1 (l1.map SR), .sl p0_d_Seen 9 1 (a0_d_Seen.map SR), .sl p0_d_Safe 9 1 (a0_d_Safe.map SR), .sl p0_d_late 3 1 (a0_d_late.map I), .sl p0_d_texts 9 1 (a0_d_texts.map SR)] ∧ m10_quirref_Log_Append_K3 l1 a0_from a0_at a0_d_Safe a0_seq a0_fell a0_d_Seen a0_d_late a0_d_texts a0_d_left = some r) ?_ ?_)
    ·
     refine W.seq (W.quietC mixed (by kernel_rfl) (fun _ hw => hw.drew) (fun hC => ?_))
     refine U.y rfl (Y.move rfl) ?_
     refine U.y rfl (Y.lenM (g := SR) (l := l1) Tryd.underlying30 rfl (fun w hw => As.at_ (hw.get (i := 0) rfl))) ?_
     refine U.y rfl (Y.move rfl) ?_
     refine U.y rfl (Y.nilCheck rfl) ?_
     refine U.y rfl (Y.fieldP fd68_2 rfl) ?_
     refine U.y rfl (Y.loadP (i := 1) ag3 rfl rfl rfl) ?_
     refine U.y rfl (Y.move rfl) ?_
     refine U.y rfl (Y.nilCheck rfl) ?_
     refine U.y rfl (Y.fieldP fd68_4 rfl) ?_
     refine U.y rfl (Y.loadP (i := 1) ag3 rfl rfl rfl) ?_
     refine U.m (V := fun x68 => .int .i64 x68) h rfl (Y.subM rfl rfl) (fun x68 ex68 h => ?_)
     refine U.ite h rfl (Y.gtr rfl rfl) (fun c69 h => ?_) (fun c69 h => ?_)
     ·
      refine U.nil (E.thenN (W.condT rfl ?_))
      refine W.seq (W.region (L.y rfl (Y.assign rfl) ?_))
      refine L.nil (E.thenN (W.ret (E.KSR (E.ret1 rfl rfl (fun w1 hw => ?_)))))
      obtain rfl := Option.some.inj h
      exact ⟨_, _, rfl, ⟨_, _, _, _, rfl, rfl⟩, hw.sel [1, 2, 3, 4, 5, 6] (by decide) rfl⟩
     ·
      refine U.nil (E.thenN (W.condF rfl ?_))
      exact W.skip (E.joinJ ⟨rfl, rfl, h⟩ ⟨rfl, rfl, trivial⟩ (fun _ hw => hw.sel [1, 2, 0, 3, 4, 5, 6] (by decide) rfl))
    ·
     rintro _ _ ⟨rfl, rfl, h⟩
     rw [m10_quirref_Log_Append_K3] at h
     refine W.seqJ (fun gs D => ∃ (gv1 : Value) (gl2 : (List (List UInt8))) (gv3 : Value) (gl4 : (List Int)) (gv5 : Value) (gl6 : (List (List UInt8))) (gx7 : Int), gs = [(0, pt pb0 0), (5, v2)] ∧ D = Cls w F [.obj pb0 [pt pb0_d 0, .int .i64 a0_from, .int .i64 a0_size, .int .i64 a0_epoch, .int .i64 a0_at, .int .i64 a0_seq, .bool a0_fell] 68, .obj pb0_d [gv1, p0_d_Safe, gv3, gv5, .int .i64 gx7] 48, .sl v2 9 1 (l1.map SR), .sl gv1 9 1 (gl2.map SR), .sl p0_d_Safe 9 1 (a0_d_Safe.map SR), .sl gv3 3 1 (gl4.map I), .sl gv5 9 1 (gl6.map SR)] ∧ m10_quirref_Log_Append_K4 a0_at l1 a0_seq a0_d_Safe a0_fell gl2 gl4 gl6 gx7 = some r) ?_ ?_
     ·
      refine W.seq (W.region (L.y rfl (Y.move rfl) ?_))
      refine L.y rfl (Y.lenM (g := SR) (l := l1) Tryd.underlying30 rfl (fun w hw => As.at_ (hw.get (i := 2) rfl))) ?_
      refine L.y rfl (Y.move rfl) ?_
      refine L.nil (E.thenN (W.block (W.loopJ (fun m gs D => ∃ (gx8 : Int) (gv9 : Value) (gl10 : (List (List UInt8))) (gv11 : Value) (gl12 : (List Int)) (gv13 : Value) (gl14 : (List (List UInt8))) (gx15 : Int), gs = [(0, pt pb0 0), (5, v2), (38, v2), (39, .int .i64 (l1.length : Int)), (40, .int .i64 gx8)] ∧ D = Cls w F [.obj pb0 [pt pb0_d 0, .int .i64 a0_from, .int .i64 a0_size, .int .i64 a0_epoch, .int .i64 a0_at, .int .i64 a0_seq, .bool a0_fell] 68, .obj pb0_d [gv9, p0_d_Safe, gv11, gv13, .int .i64 gx15] 48, .sl v2 9 1 (l1.map SR), .sl gv9 9 1 (gl10.map SR), .sl p0_d_Safe 9 1 (a0_d_Safe.map SR), .sl gv11 3 1 (gl12.map I), .sl gv13 9 1 (gl14.map SR)] ∧ m10_quirref_Log_Append_L1 l1 a0_from a0_at a0_d_Safe a0_seq a0_fell m gx8 gl10 gl12 gl14 gx15 = some r) ⟨0, p0_d_Seen, a0_d_Seen, p0_d_late, a0_d_late, p0_d_texts, a0_d_texts, a0_d_left, rfl, rfl, h⟩ ⟨rfl, rfl, rfl, rfl, rfl, trivial⟩ (fun _ hw => hw) ?_)))
      rintro m _ _ ⟨gx8, gv9, gl10, gv11, gl12, gv13, gl14, gx15, rfl, rfl, h⟩
      rcases m with _ | m
      · rw [m10_quirref_Log_Append_L1] at h; cases h
      rw [m10_quirref_Log_Append_L1] at h
      generalize hg1 : m10_quirref_Log_Append_L1 l1 a0_from a0_at a0_d_Safe a0_seq a0_fell m = go1 at h
      rw [m10_quirref_Log_Append_L1B] at h
      refine W.seq (W.region (L.ite h rfl (Y.lss rfl rfl) (fun c8 h => ?_) (fun c8 h => ?_)))
      ·
       refine L.nil (E.thenN (W.seq (W.condT rfl ?_)))
       refine W.skip (E.thenN (W.seq (W.block (W.seq (W.region (L.y rfl (Y.move rfl) ?_))))))
       refine L.m (V := fun _ => el v2 (gx8.toNat * 1)) h rfl (Y.indexM (g := SR) (l := l1) Tryd.underlying30 sz9 rfl rfl (fun w hw => As.at_ (hw.get (i := 2) rfl))) (fun x9 ex9 h => ?_)
       refine L.y rfl (Y.loadE1 (u := st x9) ag9 rfl (fun w hw => As.at_ (hw.get (i := 2) rfl)) (idx_map ex9)) ?_
       refine L.y rfl (Y.assign rfl) ?_
       refine L.y rfl (Y.assign rfl) ?_
       refine L.nil (E.thenN (W.seq (W.drawn2 (k := 18) (stC [[16]] [Cls w F [.obj pb0 [pt pb0_d 0, .int .i64 a0_from, .int .i64 a0_size, .int .i64 a0_epoch, .int .i64 a0_at, .int .i64 a0_seq, .bool a0_fell] 68, .obj pb0_d [gv9, p0_d_Safe, gv11, gv13, .int .i64 gx15] 48, .sl v2 9 1 (l1.map SR), .sl gv9 9 1 (gl10.map SR), .sl p0_d_Safe 9 1 (a0_d_Safe.map SR), .sl gv11 3 1 (gl12.map I), .sl gv13 9 1 (gl14.map SR)]] (Cls w F [.obj pb0 [pt pb0_d 0, .int .i64 a0_from, .int .i64 a0_size, .int .i64 a0_epoch, .int .i64 a0_at, .int .i64 a0_seq, .bool a0_fell] 68, .sl v2 9 1 (l1.map SR), .sl p0_d_Safe 9 1 (a0_d_Safe.map SR)])) rfl mixed (fun _ hw => hw.drew) (Sc.now (by kernel_rfl) (fun _ hw => hw)) ?_)))
       refine V2.y (i := 0) (Nx2.of (Z := Cls w F [.obj pb0 [pt pb0_d 0, .int .i64 a0_from, .int .i64 a0_size, .int .i64 a0_epoch, .int .i64 a0_at, .int .i64 a0_seq, .bool a0_fell] 68, .sl v2 9 1 (l1.map SR), .sl p0_d_Safe 9 1 (a0_d_Safe.map SR)]) [] (by kernel_rfl) rfl (Zc.on (fun _ hw => hw.sel [0, 2, 4] (by decide) rfl) (Zc.fin (fun _ hw => hw)))) rfl rfl rfl (Y.move rfl) ?_
       refine V2.nilc (i := 1) (Nx2.of (Z := Cls w F [.obj pb0 [pt pb0_d 0, .int .i64 a0_from, .int .i64 a0_size, .int .i64 a0_epoch, .int .i64 a0_at, .int .i64 a0_seq, .bool a0_fell] 68, .sl v2 9 1 (l1.map SR), .sl p0_d_Safe 9 1 (a0_d_Safe.map SR)]) [] (by kernel_rfl) rfl (Zc.on (fun _ hw => hw.sel [0, 2, 4] (by decide) rfl) (Zc.fin (fun _ hw => hw)))) rfl rfl rfl ?_
       refine V2.y (i := 2) (Nx2.of (Z := Cls w F [.obj pb0 [pt pb0_d 0, .int .i64 a0_from, .int .i64 a0_size, .int .i64 a0_epoch, .int .i64 a0_at, .int .i64 a0_seq, .bool a0_fell] 68, .sl v2 9 1 (l1.map SR), .sl p0_d_Safe 9 1 (a0_d_Safe.map SR)]) [] (by kernel_rfl) rfl (Zc.on (fun _ hw => hw.sel [0, 2, 4] (by decide) rfl) (Zc.fin (fun _ hw => hw)))) rfl rfl rfl (Y.fieldP fd68_0 rfl) ?_
       refine V2.y (i := 3) (Nx2.of (Z := Cls w F [.obj pb0 [pt pb0_d 0, .int .i64 a0_from, .int .i64 a0_size, .int .i64 a0_epoch, .int .i64 a0_at, .int .i64 a0_seq, .bool a0_fell] 68, .sl v2 9 1 (l1.map SR), .sl p0_d_Safe 9 1 (a0_d_Safe.map SR)]) [] (by kernel_rfl) rfl (Zc.on (fun _ hw => hw.sel [0, 2, 4] (by decide) rfl) (Zc.fin (fun _ hw => hw)))) rfl rfl rfl (Y.loadP (i := 0) ag27 rfl rfl rfl) ?_
       refine V2.y (i := 4) (Nx2.of (Z := Cls w F [.obj pb0 [pt pb0_d 0, .int .i64 a0_from, .int .i64 a0_size, .int .i64 a0_epoch, .int .i64 a0_at, .int .i64 a0_seq, .bool a0_fell] 68, .sl v2 9 1 (l1.map SR), .sl p0_d_Safe 9 1 (a0_d_Safe.map SR)]) [] (by kernel_rfl) rfl (Zc.on (fun _ hw => hw.sel [0, 2, 4] (by decide) rfl) (Zc.fin (fun _ hw => hw)))) rfl rfl rfl (Y.move rfl) ?_
       refine V2.nilc (i := 5) (Nx2.of (Z := Cls w F [.obj pb0 [pt pb0_d 0, .int .i64 a0_from, .int .i64 a0_size, .int .i64 a0_epoch, .int .i64 a0_at, .int .i64 a0_seq, .bool a0_fell] 68, .sl v2 9 1 (l1.map SR), .sl p0_d_Safe 9 1 (a0_d_Safe.map SR)]) [] (by kernel_rfl) rfl (Zc.on (fun _ hw => hw.sel [0, 2, 4] (by decide) rfl) (Zc.fin (fun _ hw => hw)))) rfl rfl rfl ?_
       refine V2.y (i := 6) (Nx2.of (Z := Cls w F [.obj pb0 [pt pb0_d 0, .int .i64 a0_from, .int .i64 a0_size, .int .i64 a0_epoch, .int .i64 a0_at, .int .i64 a0_seq, .bool a0_fell] 68, .sl v2 9 1 (l1.map SR), .sl p0_d_Safe 9 1 (a0_d_Safe.map SR)]) [] (by kernel_rfl) rfl (Zc.on (fun _ hw => hw.sel [0, 2, 4] (by decide) rfl) (Zc.fin (fun _ hw => hw)))) rfl rfl rfl (Y.fieldP fd68_1 rfl) ?_
       refine V2.y (i := 7) (Nx2.of (Z := Cls w F [.obj pb0 [pt pb0_d 0, .int .i64 a0_from, .int .i64 a0_size, .int .i64 a0_epoch, .int .i64 a0_at, .int .i64 a0_seq, .bool a0_fell] 68, .sl v2 9 1 (l1.map SR), .sl p0_d_Safe 9 1 (a0_d_Safe.map SR)]) [] (by kernel_rfl) rfl (Zc.on (fun _ hw => hw.sel [0, 2, 4] (by decide) rfl) (Zc.fin (fun _ hw => hw)))) rfl rfl rfl (Y.loadP (i := 0) ag3 rfl rfl rfl) ?_
       refine V2.y (i := 8) (Nx2.of (Z := Cls w F [.obj pb0 [pt pb0_d 0, .int .i64 a0_from, .int .i64 a0_size, .int .i64 a0_epoch, .int .i64 a0_at, .int .i64 a0_seq, .bool a0_fell] 68, .sl v2 9 1 (l1.map SR), .sl p0_d_Safe 9 1 (a0_d_Safe.map SR)]) [] (by kernel_rfl) rfl (Zc.on (fun _ hw => hw.sel [0, 2, 4] (by decide) rfl) (Zc.fin (fun _ hw => hw)))) rfl rfl rfl (Y.move rfl) ?_
       refine V2.nilc (i := 9) (Nx2.of (Z := Cls w F [.obj pb0 [pt pb0_d 0, .int .i64 a0_from, .int .i64 a0_size, .int .i64 a0_epoch, .int .i64 a0_at, .int .i64 a0_seq, .bool a0_fell] 68, .sl v2 9 1 (l1.map SR), .sl p0_d_Safe 9 1 (a0_d_Safe.map SR)]) [] (by kernel_rfl) rfl (Zc.on (fun _ hw => hw.sel [0, 2, 4] (by decide) rfl) (Zc.fin (fun _ hw => hw)))) rfl rfl rfl ?_
       refine V2.y (i := 10) (Nx2.of (Z := Cls w F [.obj pb0 [pt pb0_d 0, .int .i64 a0_from, .int .i64 a0_size, .int .i64 a0_epoch, .int .i64 a0_at, .int .i64 a0_seq, .bool a0_fell] 68, .sl v2 9 1 (l1.map SR), .sl p0_d_Safe 9 1 (a0_d_Safe.map SR)]) [] (by kernel_rfl) rfl (Zc.on (fun _ hw => hw.sel [0, 2, 4] (by decide) rfl) (Zc.fin (fun _ hw => hw)))) rfl rfl rfl (Y.fieldP fd68_4 rfl) ?_
       refine V2.y (i := 11) (Nx2.of (Z := Cls w F [.obj pb0 [pt pb0_d 0, .int .i64 a0_from, .int .i64 a0_size, .int .i64 a0_epoch, .int .i64 a0_at, .int .i64 a0_seq, .bool a0_fell] 68, .sl v2 9 1 (l1.map SR), .sl p0_d_Safe 9 1 (a0_d_Safe.map SR)]) [] (by kernel_rfl) rfl (Zc.on (fun _ hw => hw.sel [0, 2, 4] (by decide) rfl) (Zc.fin (fun _ hw => hw)))) rfl rfl rfl (Y.loadP (i := 0) ag3 rfl rfl rfl) ?_
       refine V2.m (i := 12) (V' := fun x54 => .int .i64 x54) h (Nx2.of (Z := Cls w F [.obj pb0 [pt pb0_d 0, .int .i64 a0_from, .int .i64 a0_size, .int .i64 a0_epoch, .int .i64 a0_at, .int .i64 a0_seq, .bool a0_fell] 68, .sl v2 9 1 (l1.map SR), .sl p0_d_Safe 9 1 (a0_d_Safe.map SR)]) [] (by kernel_rfl) rfl (Zc.on (fun _ hw => hw.sel [0, 2, 4] (by decide) rfl) (Zc.fin (fun _ hw => hw)))) rfl rfl rfl (Y.addM rfl rfl) (fun x54 ex54 h => ?_)
       refine V2.y (i := 13) (Nx2.of (Z := Cls w F [.obj pb0 [pt pb0_d 0, .int .i64 a0_from, .int .i64 a0_size, .int .i64 a0_epoch, .int .i64 a0_at, .int .i64 a0_seq, .bool a0_fell] 68, .sl v2 9 1 (l1.map SR), .sl p0_d_Safe 9 1 (a0_d_Safe.map SR)]) [] (by kernel_rfl) rfl (Zc.on (fun _ hw => hw.sel [0, 2, 4] (by decide) rfl) (Zc.fin (fun _ hw => hw)))) rfl rfl rfl (Y.move rfl) ?_
       refine V2.m (i := 14) (V' := fun x55 => .int .i64 x55) h (Nx2.of (Z := Cls w F [.obj pb0 [pt pb0_d 0, .int .i64 a0_from, .int .i64 a0_size, .int .i64 a0_epoch, .int .i64 a0_at, .int .i64 a0_seq, .bool a0_fell] 68, .sl v2 9 1 (l1.map SR), .sl p0_d_Safe 9 1 (a0_d_Safe.map SR)]) [] (by kernel_rfl) rfl (Zc.on (fun _ hw => hw.sel [0, 2, 4] (by decide) rfl) (Zc.fin (fun _ hw => hw)))) rfl rfl rfl (Y.addM rfl rfl) (fun x55 ex55 h => ?_)
       refine V2.y (i := 15) (Nx2.of (Z := Cls w F [.obj pb0 [pt pb0_d 0, .int .i64 a0_from, .int .i64 a0_size, .int .i64 a0_epoch, .int .i64 a0_at, .int .i64 a0_seq, .bool a0_fell] 68, .sl v2 9 1 (l1.map SR), .sl p0_d_Safe 9 1 (a0_d_Safe.map SR)]) [] (by kernel_rfl) rfl (Zc.on (fun _ hw => hw.sel [0, 2, 4] (by decide) rfl) (Zc.fin (fun _ hw => hw)))) rfl rfl rfl (Y.move rfl) ?_
       refine V2.eff (i := 16) (by kernel_rfl) rfl ?_
       refine L.to (D := Cls w F [.obj pb0_d [gv9, p0_d_Safe, gv11, gv13, .int .i64 gx15] 48, .sl gv9 9 1 (gl10.map SR), .sl p0_d_Safe 9 1 (a0_d_Safe.map SR), .sl gv11 3 1 (gl12.map I), .sl gv13 9 1 (gl14.map SR), .obj pb0 [pt pb0_d 0, .int .i64 a0_from, .int .i64 a0_size, .int .i64 a0_epoch, .int .i64 a0_at, .int .i64 a0_seq, .bool a0_fell] 68, .sl v2 9 1 (l1.map SR)]) (fun _ hw => hw.sel [1, 3, 4, 5, 6, 0, 2] (by decide) rfl) ?_
       obtain ⟨l56, l57, l58, x59, x60, e61, h⟩ := bind5S h
       refine L.doesP (A := [.obj pb0_d [gv9, p0_d_Safe, gv11, gv13, .int .i64 gx15] 48, .sl gv9 9 1 (gl10.map SR), .sl p0_d_Safe 9 1 (a0_d_Safe.map SR), .sl gv11 3 1 (gl12.map I), .sl gv13 9 1 (gl14.map SR)]) (M := [.obj pb0 [pt pb0_d 0, .int .i64 a0_from, .int .i64 a0_size, .int .i64 a0_epoch, .int .i64 a0_at, .int .i64 a0_seq, .bool a0_fell] 68, .sl v2 9 1 (l1.map SR)]) rfl en36 rfl (fun w' hw => w36_quirref_Disk_Write gl10 a0_d_Safe gl12 gl14 gx15 x55 x9 pb0_d gv9 p0_d_Safe gv11 gv13 w' _ e61 _ hw.lend) ?_
       rintro _ _ ⟨v62, v63, v64, rfl, rfl⟩
       refine L.to (D := Cls w F [.obj pb0_d [v62, p0_d_Safe, v63, v64, .int .i64 x59] 48, .sl v62 9 1 (l56.map SR), .sl p0_d_Safe 9 1 (a0_d_Safe.map SR), .sl v63 3 1 (l57.map I), .sl v64 9 1 (l58.map SR), .obj pb0 [pt pb0_d 0, .int .i64 a0_from, .int .i64 a0_size, .int .i64 a0_epoch, .int .i64 a0_at, .int .i64 a0_seq, .bool a0_fell] 68, .sl v2 9 1 (l1.map SR)]) (fun _ hw => hw) ?_
       refine L.nil (E.toV2 (stC [] [] (Cls w F [.sl v62 9 1 (l56.map SR), .sl p0_d_Safe 9 1 (a0_d_Safe.map SR), .sl v63 3 1 (l57.map I), .sl v64 9 1 (l58.map SR), .obj pb0 [pt pb0_d 0, .int .i64 a0_from, .int .i64 a0_size, .int .i64 a0_epoch, .int .i64 a0_at, .int .i64 a0_seq, .bool a0_fell] 68, .sl v2 9 1 (l1.map SR)])) 16 (by kernel_rfl) (Sc.past rfl (Sc.stayD (fun _ hw => hw.sel [4, 5, 1] (by decide) rfl))) (Sc.atD (fun _ hw => hw.sel [1, 2, 3, 4, 5, 6] (by decide) rfl)) ?_)
       refine V2.y (i := 17) (Nx2.of (Z := Cls w F [.sl v62 9 1 (l56.map SR), .sl p0_d_Safe 9 1 (a0_d_Safe.map SR), .sl v63 3 1 (l57.map I), .sl v64 9 1 (l58.map SR), .obj pb0 [pt pb0_d 0, .int .i64 a0_from, .int .i64 a0_size, .int .i64 a0_epoch, .int .i64 a0_at, .int .i64 a0_seq, .bool a0_fell] 68, .sl v2 9 1 (l1.map SR)]) [] (by kernel_rfl) rfl (Zc.fin (fun _ hw => hw))) rfl rfl rfl (Y.assign rfl) ?_
       refine V2.done (by kernel_rfl) ?_
       refine E.thenN (W.seq (W.region (L.y rfl (Y.move rfl) ?_)))
       refine L.ite h rfl (Y.neq rfl rfl) (fun c65 h => ?_) (fun c65 h => ?_)
       ·
        refine L.nil (E.thenN (W.condT rfl ?_))
        refine W.seq (W.region (L.y rfl (Y.move rfl) ?_))
        refine L.y rfl (Y.move rfl) ?_
        refine L.callJ (fun v D => v = .int .i64 x60 ∧ D = Cls w F [.obj pb0_d [v62, p0_d_Safe, v63, v64, .int .i64 x59] 48, .obj pb0 [pt pb0_d 0, .int .i64 a0_from, .int .i64 a0_size, .int .i64 a0_epoch, .int .i64 a0_at, .int .i64 a0_seq, .bool true] 68, .sl v62 9 1 (l56.map SR), .sl p0_d_Safe 9 1 (a0_d_Safe.map SR), .sl v63 3 1 (l57.map I), .sl v64 9 1 (l58.map SR)] ∧ m10_quirref_Log_Append_K5 l56 a0_d_Safe l57 l58 x59 a0_at a0_seq x60 = some r) rfl en37 rfl Tryd.func37 rfl rfl rfl ?_ ?_
        ·
         refine W.seq (W.region (L.y rfl (Y.assign rfl) ?_))
         refine L.nil (E.thenN (W.seq (W.seq (W.region (L.y rfl (Y.move rfl) ?_)))))
         refine L.ite h rfl (Y.neq rfl rfl) (fun c66 h => ?_) (fun c66 h => ?_)
         ·
          refine L.nil (E.thenN (W.condT rfl ?_))
          refine W.region (L.y rfl (Y.move rfl) ?_)
          refine L.y rfl (Y.nilCheck rfl) ?_
          refine L.y rfl (Y.fieldP fd68_6 rfl) ?_
          refine L.store (i := 5) (vs := [.bool true]) sz4 rfl rfl rfl rfl (by simp [Value.oneCell', Value.cells, st, pt, el]) rfl (Nat.le_of_ble_eq_true rfl) ?_
          refine L.nil (E.thenN (W.seq (W.region (L.y rfl (Y.move rfl) ?_))))
          refine L.y rfl (Y.assign rfl) ?_
          refine L.nil (E.thenN (W.ret (E.ret1 rfl rfl (fun w1 hw => ?_))))
          exact ⟨_, _, rfl, ⟨rfl, rfl, h⟩, hw.sel [0, 5, 1, 2, 3, 4] (by decide) rfl⟩
         ·
          cases h
        ·
         rintro _ _ ⟨rfl, rfl, h⟩
         rw [m10_quirref_Log_Append_K5] at h
         refine L.y rfl (Y.assign rfl) ?_
         refine L.nil (E.thenN (W.ret (E.blockR (E.thenR (E.KLR (E.blockR (E.KSR (E.ret1 rfl rfl (fun w1 hw => ?_)))))))))
         obtain rfl := Option.some.inj h
         exact ⟨_, _, rfl, ⟨_, _, _, _, rfl, rfl⟩, hw.sel [1, 0, 2, 3, 4, 5] (by decide) rfl⟩
       ·
        refine L.nil (E.thenN (W.condF rfl ?_))
        refine W.skip (E.blockN (E.thenN (W.region (L.m (V := fun x67 => .int .i64 x67) h rfl (Y.addM rfl rfl) (fun x67 ex67 h => ?_)))))
        refine L.y rfl (Y.move rfl) ?_
        exact L.nil (E.againJ ⟨x67, v62, l56, v63, l57, v64, l58, x59, rfl, rfl, by rw [hg1]; exact h⟩ (Nat.lt_succ_self _) ⟨rfl, rfl, rfl, rfl, rfl, trivial⟩ (fun _ hw => hw.sel [5, 0, 6, 1, 2, 3, 4] (by decide) rfl))
      ·
       refine L.nil (E.thenN (W.seq (W.condF rfl ?_)))
       exact W.exit (E.thenX (E.KLX (E.blockX (E.joinJ ⟨gv9, gl10, gv11, gl12, gv13, gl14, gx15, rfl, rfl, h⟩ ⟨rfl, rfl, trivial⟩ (fun _ hw => hw)))))
     ·
      rintro _ _ ⟨gv1, gl2, gv3, gl4, gv5, gl6, gx7, rfl, rfl, h⟩
      rw [m10_quirref_Log_Append_K4] at h
      refine W.seq (W.drawn2 (k := 20) (stC [[16]] [Cls w F [.obj pb0 [pt pb0_d 0, .int .i64 a0_from, .int .i64 a0_size, .int .i64 a0_epoch, .int .i64 a0_at, .int .i64 a0_seq, .bool a0_fell] 68, .obj pb0_d [gv1, p0_d_Safe, gv3, gv5, .int .i64 gx7] 48, .sl v2 9 1 (l1.map SR), .sl gv1 9 1 (gl2.map SR), .sl p0_d_Safe 9 1 (a0_d_Safe.map SR), .sl gv3 3 1 (gl4.map I), .sl gv5 9 1 (gl6.map SR)]] (Cls w F [.obj pb0_d [gv1, p0_d_Safe, gv3, gv5, .int .i64 gx7] 48, .sl v2 9 1 (l1.map SR), .sl gv1 9 1 (gl2.map SR), .sl p0_d_Safe 9 1 (a0_d_Safe.map SR), .sl gv3 3 1 (gl4.map I), .sl gv5 9 1 (gl6.map SR)])) rfl mixed (fun _ hw => hw.drew) (Sc.now (by kernel_rfl) (fun _ hw => hw)) ?_)
      refine V2.y (i := 0) (Nx2.of (Z := Cls w F [.obj pb0_d [gv1, p0_d_Safe, gv3, gv5, .int .i64 gx7] 48, .sl v2 9 1 (l1.map SR), .sl gv1 9 1 (gl2.map SR), .sl p0_d_Safe 9 1 (a0_d_Safe.map SR), .sl gv3 3 1 (gl4.map I), .sl gv5 9 1 (gl6.map SR)]) [] (by kernel_rfl) rfl (Zc.on (fun _ hw => hw.sel [1, 2, 3, 4, 5, 6] (by decide) rfl) (Zc.fin (fun _ hw => hw)))) rfl rfl rfl (Y.move rfl) ?_
      refine V2.y (i := 1) (Nx2.of (Z := Cls w F [.obj pb0_d [gv1, p0_d_Safe, gv3, gv5, .int .i64 gx7] 48, .sl v2 9 1 (l1.map SR), .sl gv1 9 1 (gl2.map SR), .sl p0_d_Safe 9 1 (a0_d_Safe.map SR), .sl gv3 3 1 (gl4.map I), .sl gv5 9 1 (gl6.map SR)]) [] (by kernel_rfl) rfl (Zc.on (fun _ hw => hw.sel [1, 2, 3, 4, 5, 6] (by decide) rfl) (Zc.fin (fun _ hw => hw)))) rfl rfl rfl (Y.move rfl) ?_
      refine V2.y (i := 2) (Nx2.of (Z := Cls w F [.obj pb0_d [gv1, p0_d_Safe, gv3, gv5, .int .i64 gx7] 48, .sl v2 9 1 (l1.map SR), .sl gv1 9 1 (gl2.map SR), .sl p0_d_Safe 9 1 (a0_d_Safe.map SR), .sl gv3 3 1 (gl4.map I), .sl gv5 9 1 (gl6.map SR)]) [] (by kernel_rfl) rfl (Zc.on (fun _ hw => hw.sel [1, 2, 3, 4, 5, 6] (by decide) rfl) (Zc.fin (fun _ hw => hw)))) rfl rfl rfl (Y.move rfl) ?_
      refine V2.nilc (i := 3) (Nx2.of (Z := Cls w F [.obj pb0_d [gv1, p0_d_Safe, gv3, gv5, .int .i64 gx7] 48, .sl v2 9 1 (l1.map SR), .sl gv1 9 1 (gl2.map SR), .sl p0_d_Safe 9 1 (a0_d_Safe.map SR), .sl gv3 3 1 (gl4.map I), .sl gv5 9 1 (gl6.map SR)]) [] (by kernel_rfl) rfl (Zc.on (fun _ hw => hw.sel [1, 2, 3, 4, 5, 6] (by decide) rfl) (Zc.fin (fun _ hw => hw)))) rfl rfl rfl ?_
      refine V2.y (i := 4) (Nx2.of (Z := Cls w F [.obj pb0_d [gv1, p0_d_Safe, gv3, gv5, .int .i64 gx7] 48, .sl v2 9 1 (l1.map SR), .sl gv1 9 1 (gl2.map SR), .sl p0_d_Safe 9 1 (a0_d_Safe.map SR), .sl gv3 3 1 (gl4.map I), .sl gv5 9 1 (gl6.map SR)]) [] (by kernel_rfl) rfl (Zc.on (fun _ hw => hw.sel [1, 2, 3, 4, 5, 6] (by decide) rfl) (Zc.fin (fun _ hw => hw)))) rfl rfl rfl (Y.fieldP fd68_4 rfl) ?_
      refine V2.y (i := 5) (Nx2.of (Z := Cls w F [.obj pb0 [pt pb0_d 0, .int .i64 a0_from, .int .i64 a0_size, .int .i64 a0_epoch, .int .i64 a0_at, .int .i64 a0_seq, .bool a0_fell] 68, .obj pb0_d [gv1, p0_d_Safe, gv3, gv5, .int .i64 gx7] 48, .sl v2 9 1 (l1.map SR), .sl gv1 9 1 (gl2.map SR), .sl p0_d_Safe 9 1 (a0_d_Safe.map SR), .sl gv3 3 1 (gl4.map I), .sl gv5 9 1 (gl6.map SR)]) [16] (by kernel_rfl) rfl (Zc.at1 (fun _ hw => hw))) rfl rfl rfl (Y.loadP (i := 0) ag3 rfl rfl rfl) ?_
      refine V2.y (i := 6) (Nx2.of (Z := Cls w F [.obj pb0_d [gv1, p0_d_Safe, gv3, gv5, .int .i64 gx7] 48, .sl v2 9 1 (l1.map SR), .sl gv1 9 1 (gl2.map SR), .sl p0_d_Safe 9 1 (a0_d_Safe.map SR), .sl gv3 3 1 (gl4.map I), .sl gv5 9 1 (gl6.map SR)]) [] (by kernel_rfl) rfl (Zc.on (fun _ hw => hw.sel [1, 2, 3, 4, 5, 6] (by decide) rfl) (Zc.fin (fun _ hw => hw)))) rfl rfl rfl (Y.move rfl) ?_
      refine V2.y (i := 7) (Nx2.of (Z := Cls w F [.obj pb0_d [gv1, p0_d_Safe, gv3, gv5, .int .i64 gx7] 48, .sl v2 9 1 (l1.map SR), .sl gv1 9 1 (gl2.map SR), .sl p0_d_Safe 9 1 (a0_d_Safe.map SR), .sl gv3 3 1 (gl4.map I), .sl gv5 9 1 (gl6.map SR)]) [] (by kernel_rfl) rfl (Zc.on (fun _ hw => hw.sel [1, 2, 3, 4, 5, 6] (by decide) rfl) (Zc.fin (fun _ hw => hw)))) rfl rfl rfl (Y.lenM (g := SR) (l := l1) Tryd.underlying30 rfl (fun w hw => As.at_ (hw.get (i := 1) rfl))) ?_
      refine V2.m (i := 8) (V' := fun x6 => .int .i64 x6) h (Nx2.of (Z := Cls w F [.obj pb0_d [gv1, p0_d_Safe, gv3, gv5, .int .i64 gx7] 48, .sl v2 9 1 (l1.map SR), .sl gv1 9 1 (gl2.map SR), .sl p0_d_Safe 9 1 (a0_d_Safe.map SR), .sl gv3 3 1 (gl4.map I), .sl gv5 9 1 (gl6.map SR)]) [] (by kernel_rfl) rfl (Zc.on (fun _ hw => hw.sel [1, 2, 3, 4, 5, 6] (by decide) rfl) (Zc.fin (fun _ hw => hw)))) rfl rfl rfl (Y.addM rfl rfl) (fun x6 ex6 h => ?_)
      refine V2.y (i := 9) (Nx2.of (Z := Cls w F [.obj pb0_d [gv1, p0_d_Safe, gv3, gv5, .int .i64 gx7] 48, .sl v2 9 1 (l1.map SR), .sl gv1 9 1 (gl2.map SR), .sl p0_d_Safe 9 1 (a0_d_Safe.map SR), .sl gv3 3 1 (gl4.map I), .sl gv5 9 1 (gl6.map SR)]) [] (by kernel_rfl) rfl (Zc.on (fun _ hw => hw.sel [1, 2, 3, 4, 5, 6] (by decide) rfl) (Zc.fin (fun _ hw => hw)))) rfl rfl rfl (Y.move rfl) ?_
      refine V2.nilc (i := 10) (Nx2.of (Z := Cls w F [.obj pb0_d [gv1, p0_d_Safe, gv3, gv5, .int .i64 gx7] 48, .sl v2 9 1 (l1.map SR), .sl gv1 9 1 (gl2.map SR), .sl p0_d_Safe 9 1 (a0_d_Safe.map SR), .sl gv3 3 1 (gl4.map I), .sl gv5 9 1 (gl6.map SR)]) [] (by kernel_rfl) rfl (Zc.on (fun _ hw => hw.sel [1, 2, 3, 4, 5, 6] (by decide) rfl) (Zc.fin (fun _ hw => hw)))) rfl rfl rfl ?_
      refine V2.y (i := 11) (Nx2.of (Z := Cls w F [.obj pb0_d [gv1, p0_d_Safe, gv3, gv5, .int .i64 gx7] 48, .sl v2 9 1 (l1.map SR), .sl gv1 9 1 (gl2.map SR), .sl p0_d_Safe 9 1 (a0_d_Safe.map SR), .sl gv3 3 1 (gl4.map I), .sl gv5 9 1 (gl6.map SR)]) [] (by kernel_rfl) rfl (Zc.on (fun _ hw => hw.sel [1, 2, 3, 4, 5, 6] (by decide) rfl) (Zc.fin (fun _ hw => hw)))) rfl rfl rfl (Y.fieldP fd68_5 rfl) ?_
      refine V2.y (i := 12) (Nx2.of (Z := Cls w F [.obj pb0 [pt pb0_d 0, .int .i64 a0_from, .int .i64 a0_size, .int .i64 a0_epoch, .int .i64 a0_at, .int .i64 a0_seq, .bool a0_fell] 68, .obj pb0_d [gv1, p0_d_Safe, gv3, gv5, .int .i64 gx7] 48, .sl v2 9 1 (l1.map SR), .sl gv1 9 1 (gl2.map SR), .sl p0_d_Safe 9 1 (a0_d_Safe.map SR), .sl gv3 3 1 (gl4.map I), .sl gv5 9 1 (gl6.map SR)]) [16] (by kernel_rfl) rfl (Zc.at1 (fun _ hw => hw))) rfl rfl rfl (Y.loadP (i := 0) ag3 rfl rfl rfl) ?_
      refine V2.m (i := 13) (V' := fun x7 => .int .i64 x7) h (Nx2.of (Z := Cls w F [.obj pb0_d [gv1, p0_d_Safe, gv3, gv5, .int .i64 gx7] 48, .sl v2 9 1 (l1.map SR), .sl gv1 9 1 (gl2.map SR), .sl p0_d_Safe 9 1 (a0_d_Safe.map SR), .sl gv3 3 1 (gl4.map I), .sl gv5 9 1 (gl6.map SR)]) [] (by kernel_rfl) rfl (Zc.on (fun _ hw => hw.sel [1, 2, 3, 4, 5, 6] (by decide) rfl) (Zc.fin (fun _ hw => hw)))) rfl rfl rfl (Y.addM rfl rfl) (fun x7 ex7 h => ?_)
      refine V2.nilc (i := 14) (Nx2.of (Z := Cls w F [.obj pb0_d [gv1, p0_d_Safe, gv3, gv5, .int .i64 gx7] 48, .sl v2 9 1 (l1.map SR), .sl gv1 9 1 (gl2.map SR), .sl p0_d_Safe 9 1 (a0_d_Safe.map SR), .sl gv3 3 1 (gl4.map I), .sl gv5 9 1 (gl6.map SR)]) [] (by kernel_rfl) rfl (Zc.on (fun _ hw => hw.sel [1, 2, 3, 4, 5, 6] (by decide) rfl) (Zc.fin (fun _ hw => hw)))) rfl rfl rfl ?_
      refine V2.y (i := 15) (Nx2.of (Z := Cls w F [.obj pb0_d [gv1, p0_d_Safe, gv3, gv5, .int .i64 gx7] 48, .sl v2 9 1 (l1.map SR), .sl gv1 9 1 (gl2.map SR), .sl p0_d_Safe 9 1 (a0_d_Safe.map SR), .sl gv3 3 1 (gl4.map I), .sl gv5 9 1 (gl6.map SR)]) [] (by kernel_rfl) rfl (Zc.on (fun _ hw => hw.sel [1, 2, 3, 4, 5, 6] (by decide) rfl) (Zc.fin (fun _ hw => hw)))) rfl rfl rfl (Y.fieldP fd68_4 rfl) ?_
      refine V2.eff (i := 16) (by kernel_rfl) rfl ?_
      refine L.store (i := 0) (vs := [.int .i64 x6]) sz3 rfl rfl rfl rfl (by simp [Value.oneCell', Value.cells, st, pt, el]) rfl (Nat.le_of_ble_eq_true rfl) ?_
      refine L.nil (E.toV2 (stC [] [] (Cls w F [.obj pb0_d [gv1, p0_d_Safe, gv3, gv5, .int .i64 gx7] 48, .sl v2 9 1 (l1.map SR), .sl gv1 9 1 (gl2.map SR), .sl p0_d_Safe 9 1 (a0_d_Safe.map SR), .sl gv3 3 1 (gl4.map I), .sl gv5 9 1 (gl6.map SR)])) 16 (by kernel_rfl) (Sc.past rfl (Sc.stayD (fun _ hw => hw))) (Sc.atD (fun _ hw => hw.sel [1, 2, 3, 4, 5, 6] (by decide) rfl)) ?_)
      refine V2.nilc (i := 17) (Nx2.of (Z := Cls w F [.obj pb0_d [gv1, p0_d_Safe, gv3, gv5, .int .i64 gx7] 48, .sl v2 9 1 (l1.map SR), .sl gv1 9 1 (gl2.map SR), .sl p0_d_Safe 9 1 (a0_d_Safe.map SR), .sl gv3 3 1 (gl4.map I), .sl gv5 9 1 (gl6.map SR)]) [] (by kernel_rfl) rfl (Zc.fin (fun _ hw => hw))) rfl rfl rfl ?_
      refine V2.y (i := 18) (Nx2.of (Z := Cls w F [.obj pb0_d [gv1, p0_d_Safe, gv3, gv5, .int .i64 gx7] 48, .sl v2 9 1 (l1.map SR), .sl gv1 9 1 (gl2.map SR), .sl p0_d_Safe 9 1 (a0_d_Safe.map SR), .sl gv3 3 1 (gl4.map I), .sl gv5 9 1 (gl6.map SR)]) [] (by kernel_rfl) rfl (Zc.fin (fun _ hw => hw))) rfl rfl rfl (Y.fieldP fd68_5 rfl) ?_
      refine V2.eff (i := 19) (by kernel_rfl) rfl ?_
      refine L.store (i := 0) (vs := [.int .i64 x7]) sz3 rfl rfl rfl rfl (by simp [Value.oneCell', Value.cells, st, pt, el]) rfl (Nat.le_of_ble_eq_true rfl) ?_
      refine L.nil (E.toV2 (stC [] [] (Cls w F [.obj pb0_d [gv1, p0_d_Safe, gv3, gv5, .int .i64 gx7] 48, .sl v2 9 1 (l1.map SR), .sl gv1 9 1 (gl2.map SR), .sl p0_d_Safe 9 1 (a0_d_Safe.map SR), .sl gv3 3 1 (gl4.map I), .sl gv5 9 1 (gl6.map SR)])) 19 (by kernel_rfl) (Sc.stayD (fun _ hw => hw)) (Sc.atD (fun _ hw => hw.sel [1, 2, 3, 4, 5, 6] (by decide) rfl)) ?_)
      refine V2.done (by kernel_rfl) ?_
      refine E.thenN (W.seq (W.region (L.y rfl (Y.assign rfl) ?_)))
      refine L.nil (E.thenN (W.ret (E.ret1 rfl rfl (fun w1 hw => ?_))))
      obtain rfl := Option.some.inj h
      exact ⟨_, _, rfl, ⟨_, _, _, _, rfl, rfl⟩, hw.sel [0, 1, 3, 4, 5, 6] (by decide) rfl⟩
set_option maxRecDepth 100000 in
set_option maxHeartbeats 8000000 in
theorem w11_wal_Log_Sync (a0_d_safe : (List (List UInt8))) (a0_d_seen : (List (List UInt8))) (a0_d_late : (List Twrite)) (a0_d_left : Int) (a0_from : Int) (a0_size : Int) (a0_epoch : Int) (a0_at : Int) (a0_seq : Int) (a0_fell : Bool) (pb0 : Nat) (pb0_d : Nat) (p0_d_safe : Value) (p0_d_seen : Value) (p0_d_late : Value) (w : World) (r : ((List (List UInt8)) × (List (List UInt8)) × (List Twrite) × Int × Bool × Int)) (h : m11_wal_Log_Sync a0_d_safe a0_d_seen a0_d_late a0_d_left a0_from a0_size a0_epoch a0_at a0_seq a0_fell = some r) (F : List Nat) (hc0 : Cls w F [.obj pb0 [pt pb0_d 0, .int .i64 a0_from, .int .i64 a0_size, .int .i64 a0_epoch, .int .i64 a0_at, .int .i64 a0_seq, .bool a0_fell] 58, .obj pb0_d [p0_d_safe, p0_d_seen, p0_d_late, .int .i64 a0_d_left] 54, .sl p0_d_safe 9 1 (a0_d_safe.map SR), .sl p0_d_seen 9 1 (a0_d_seen.map SR), .sl p0_d_late 75 2 (a0_d_late.map Twrite.row)] w) : DoesF Tryd.prog 11 [pt pb0 0] F w fun u m => ∃ y1 y2 y3, u = .int .i64 r.2.2.2.2.2 ∧ m = [.obj pb0 [pt pb0_d 0, .int .i64 a0_from, .int .i64 a0_size, .int .i64 a0_epoch, .int .i64 a0_at, .int .i64 a0_seq, .bool r.2.2.2.2.1] 58, .obj pb0_d [y1, y2, y3, .int .i64 r.2.2.2.1] 54, .sl y1 9 1 (r.1.map SR), .sl y2 9 1 (r.2.1.map SR), .sl y3 75 2 (r.2.2.1.map Twrite.row)] := by
  rw [m11_wal_Log_Sync] at h
  refine body (n := 14) Tryd.func11 rfl rfl rfl hc0 ?_
  refine W.seq (W.region (L.y rfl (Y.assign rfl) ?_))
  refine L.nil (E.thenN (W.seqJ (fun gs D => gs = [(0, pt pb0 0)] ∧ D = Cls w F [.obj pb0 [pt pb0_d 0, .int .i64 a0_from, .int .i64 a0_size, .int .i64 a0_epoch, .int .i64 a0_at, .int .i64 a0_seq, .bool a0_fell] 58, .obj pb0_d [p0_d_safe, p0_d_seen, p0_d_late, .int .i64 a0_d_left] 54, .sl p0_d_safe 9 1 (a0_d_safe.map SR), .sl p0_d_seen 9 1 (a0_d_seen.map SR), .sl p0_d_late 75 2 (a0_d_late.map Twrite.row)] ∧ m11_wal_Log_Sync_K1 a0_d_safe a0_d_seen a0_d_late a0_d_left a0_fell = some r) ?_ ?_))
  ·
   refine W.seq (W.region (L.y rfl (Y.move rfl) ?_))
   refine L.y rfl (Y.nilCheck rfl) ?_
   refine L.y rfl (Y.fieldP fd58_6 rfl) ?_
   refine L.iteB h rfl (Y.loadP (i := 0) ag4 rfl rfl rfl) (fun c11 h => ?_) (fun c11 h => ?_)
   ·
    refine L.nil (E.thenN (W.condT rfl ?_))
    refine W.seq (W.region (L.y rfl (Y.assign rfl) ?_))
    refine L.nil (E.thenN (W.ret (E.KSR (E.ret1 rfl rfl (fun w1 hw => ?_)))))
    obtain rfl := Option.some.inj h
    exact ⟨_, _, rfl, ⟨_, _, _, rfl, rfl⟩, hw⟩
   ·
    refine L.nil (E.thenN (W.condF rfl ?_))
    exact W.skip (E.joinJ ⟨rfl, rfl, h⟩ ⟨rfl, trivial⟩ (fun _ hw => hw))
  ·
   rintro _ _ ⟨rfl, rfl, h⟩
   rw [m11_wal_Log_Sync_K1] at h
   refine W.seq (W.region (L.y rfl (Y.move rfl) ?_))
   refine L.y rfl (Y.move rfl) ?_
   refine L.y rfl (Y.nilCheck rfl) ?_
   refine L.y rfl (Y.fieldP fd58_0 rfl) ?_
   refine L.y rfl (Y.loadP (i := 0) ag23 rfl rfl rfl) ?_
   refine L.to (D := Cls w F [.obj pb0_d [p0_d_safe, p0_d_seen, p0_d_late, .int .i64 a0_d_left] 54, .sl p0_d_safe 9 1 (a0_d_safe.map SR), .sl p0_d_seen 9 1 (a0_d_seen.map SR), .sl p0_d_late 75 2 (a0_d_late.map Twrite.row), .obj pb0 [pt pb0_d 0, .int .i64 a0_from, .int .i64 a0_size, .int .i64 a0_epoch, .int .i64 a0_at, .int .i64 a0_seq, .bool a0_fell] 58]) (fun _ hw => hw.sel [1, 2, 3, 4, 0] (by decide) rfl) ?_
   obtain ⟨l1, l2, l3, x4, x5, e6, h⟩ := bind5S h
   refine L.doesP (A := [.obj pb0_d [p0_d_safe, p0_d_seen, p0_d_late, .int .i64 a0_d_left] 54, .sl p0_d_safe 9 1 (a0_d_safe.map SR), .sl p0_d_seen 9 1 (a0_d_seen.map SR), .sl p0_d_late 75 2 (a0_d_late.map Twrite.row)]) (M := [.obj pb0 [pt pb0_d 0, .int .i64 a0_from, .int .i64 a0_size, .int .i64 a0_epoch, .int .i64 a0_at, .int .i64 a0_seq, .bool a0_fell] 58]) rfl en38 rfl (fun w' hw => w38_sect_Disk_Flush a0_d_safe a0_d_seen a0_d_late a0_d_left pb0_d p0_d_safe p0_d_seen p0_d_late w' _ e6 _ hw.lend) ?_
   rintro _ _ ⟨v7, v8, v9, rfl, rfl⟩
   refine L.to (D := Cls w F [.obj pb0_d [v7, v8, v9, .int .i64 x4] 54, .sl v7 9 1 (l1.map SR), .sl v8 9 1 (l2.map SR), .sl v9 75 2 (l3.map Twrite.row), .obj pb0 [pt pb0_d 0, .int .i64 a0_from, .int .i64 a0_size, .int .i64 a0_epoch, .int .i64 a0_at, .int .i64 a0_seq, .bool a0_fell] 58]) (fun _ hw => hw) ?_
   refine L.callJ (fun v D => ∃ (gb1 : Bool), v = .int .i64 x5 ∧ D = Cls w F [.obj pb0_d [v7, v8, v9, .int .i64 x4] 54, .obj pb0 [pt pb0_d 0, .int .i64 a0_from, .int .i64 a0_size, .int .i64 a0_epoch, .int .i64 a0_at, .int .i64 a0_seq, .bool gb1] 58, .sl v7 9 1 (l1.map SR), .sl v8 9 1 (l2.map SR), .sl v9 75 2 (l3.map Twrite.row)] ∧ m11_wal_Log_Sync_K2 l1 l2 l3 x4 x5 gb1 = some r) rfl en34 rfl Tryd.func34 rfl rfl rfl ?_ ?_
   ·
    refine W.seq (W.region (L.y rfl (Y.assign rfl) ?_))
    refine L.nil (E.thenN (W.seq (W.region (L.y rfl (Y.move rfl) ?_))))
    refine L.y rfl (Y.move rfl) ?_
    refine L.y rfl (Y.nilCheck rfl) ?_
    refine L.y rfl (Y.fieldP fd58_6 rfl) ?_
    refine L.iteB h rfl (Y.loadP (i := 4) ag4 rfl rfl rfl) (fun c10 h => ?_) (fun c10 h => ?_)
    ·
     refine L.y rfl (Y.move rfl) ?_
     refine L.pass rfl rfl (by nofun) ?_
     refine L.pass rfl rfl (by nofun) ?_
     refine L.y rfl (Y.pickT rfl rfl) ?_
     refine L.y rfl (Y.nilCheck rfl) ?_
     refine L.y rfl (Y.fieldP fd58_6 rfl) ?_
     refine L.store (i := 4) (vs := [.bool true]) sz4 rfl rfl rfl rfl (by simp [Value.oneCell', Value.cells, st, pt, el]) rfl (Nat.le_of_ble_eq_true rfl) ?_
     refine L.nil (E.thenN (W.seq (W.region (L.y rfl (Y.move rfl) ?_))))
     refine L.y rfl (Y.assign rfl) ?_
     refine L.nil (E.thenN (W.ret (E.ret1 rfl rfl (fun w1 hw => ?_))))
     exact ⟨_, _, rfl, ⟨true, rfl, rfl, h⟩, hw.sel [0, 4, 1, 2, 3] (by decide) rfl⟩
    ·
     refine L.y rfl (Y.move rfl) ?_
     refine L.take rfl (L.y rfl (Y.move rfl) ?_)
     refine L.take rfl (L.y rfl (Y.neq rfl rfl) ?_)
     refine L.y rfl (Y.pickF rfl rfl) ?_
     refine L.y rfl (Y.nilCheck rfl) ?_
     refine L.y rfl (Y.fieldP fd58_6 rfl) ?_
     refine L.store (i := 4) (vs := [.bool (decide (x5 ≠ 0))]) sz4 rfl rfl rfl rfl (by simp [Value.oneCell', Value.cells, st, pt, el]) rfl (Nat.le_of_ble_eq_true rfl) ?_
     refine L.nil (E.thenN (W.seq (W.region (L.y rfl (Y.move rfl) ?_))))
     refine L.y rfl (Y.assign rfl) ?_
     refine L.nil (E.thenN (W.ret (E.ret1 rfl rfl (fun w1 hw => ?_))))
     exact ⟨_, _, rfl, ⟨decide (x5 ≠ 0), rfl, rfl, h⟩, hw.sel [0, 4, 1, 2, 3] (by decide) rfl⟩
   ·
    rintro _ _ ⟨gb1, rfl, rfl, h⟩
    rw [m11_wal_Log_Sync_K2] at h
    refine L.y rfl (Y.assign rfl) ?_
    refine L.nil (E.thenN (W.ret (E.ret1 rfl rfl (fun w1 hw => ?_))))
    obtain rfl := Option.some.inj h
    exact ⟨_, _, rfl, ⟨_, _, _, rfl, rfl⟩, hw.sel [1, 0, 2, 3, 4] (by decide) rfl⟩
set_option maxRecDepth 100000 in
set_option maxHeartbeats 8000000 in
theorem w12_quirref_Log_Sync (a0_d_Seen : (List (List UInt8))) (a0_d_Safe : (List (List UInt8))) (a0_d_late : (List Int)) (a0_d_texts : (List (List UInt8))) (a0_d_left : Int) (a0_from : Int) (a0_size : Int) (a0_epoch : Int) (a0_at : Int) (a0_seq : Int) (a0_fell : Bool) (pb0 : Nat) (pb0_d : Nat) (p0_d_Seen : Value) (p0_d_Safe : Value) (p0_d_late : Value) (p0_d_texts : Value) (w : World) (r : ((List (List UInt8)) × (List (List UInt8)) × (List Int) × (List (List UInt8)) × Int × Bool × Int)) (h : m12_quirref_Log_Sync a0_d_Seen a0_d_Safe a0_d_late a0_d_texts a0_d_left a0_from a0_size a0_epoch a0_at a0_seq a0_fell = some r) (F : List Nat) (hc0 : Cls w F [.obj pb0 [pt pb0_d 0, .int .i64 a0_from, .int .i64 a0_size, .int .i64 a0_epoch, .int .i64 a0_at, .int .i64 a0_seq, .bool a0_fell] 68, .obj pb0_d [p0_d_Seen, p0_d_Safe, p0_d_late, p0_d_texts, .int .i64 a0_d_left] 48, .sl p0_d_Seen 9 1 (a0_d_Seen.map SR), .sl p0_d_Safe 9 1 (a0_d_Safe.map SR), .sl p0_d_late 3 1 (a0_d_late.map I), .sl p0_d_texts 9 1 (a0_d_texts.map SR)] w) : DoesF Tryd.prog 12 [pt pb0 0] F w fun u m => ∃ y1 y2 y3 y4, u = .int .i64 r.2.2.2.2.2.2 ∧ m = [.obj pb0 [pt pb0_d 0, .int .i64 a0_from, .int .i64 a0_size, .int .i64 a0_epoch, .int .i64 a0_at, .int .i64 a0_seq, .bool r.2.2.2.2.2.1] 68, .obj pb0_d [y1, y2, y3, y4, .int .i64 r.2.2.2.2.1] 48, .sl y1 9 1 (r.1.map SR), .sl y2 9 1 (r.2.1.map SR), .sl y3 3 1 (r.2.2.1.map I), .sl y4 9 1 (r.2.2.2.1.map SR)] := by
  rw [m12_quirref_Log_Sync] at h
  refine body (n := 14) Tryd.func12 rfl rfl rfl hc0 ?_
  refine W.seq (W.region (L.y rfl (Y.assign rfl) ?_))
  refine L.nil (E.thenN (W.seqJ (fun gs D => gs = [(0, pt pb0 0)] ∧ D = Cls w F [.obj pb0 [pt pb0_d 0, .int .i64 a0_from, .int .i64 a0_size, .int .i64 a0_epoch, .int .i64 a0_at, .int .i64 a0_seq, .bool a0_fell] 68, .obj pb0_d [p0_d_Seen, p0_d_Safe, p0_d_late, p0_d_texts, .int .i64 a0_d_left] 48, .sl p0_d_Seen 9 1 (a0_d_Seen.map SR), .sl p0_d_Safe 9 1 (a0_d_Safe.map SR), .sl p0_d_late 3 1 (a0_d_late.map I), .sl p0_d_texts 9 1 (a0_d_texts.map SR)] ∧ m12_quirref_Log_Sync_K1 a0_d_Seen a0_d_Safe a0_d_late a0_d_texts a0_d_left a0_fell = some r) ?_ ?_))
  ·
   refine W.seq (W.region (L.y rfl (Y.move rfl) ?_))
   refine L.y rfl (Y.nilCheck rfl) ?_
   refine L.y rfl (Y.fieldP fd68_6 rfl) ?_
   refine L.iteB h rfl (Y.loadP (i := 0) ag4 rfl rfl rfl) (fun c13 h => ?_) (fun c13 h => ?_)
   ·
    refine L.nil (E.thenN (W.condT rfl ?_))
    refine W.seq (W.region (L.y rfl (Y.assign rfl) ?_))
    refine L.nil (E.thenN (W.ret (E.KSR (E.ret1 rfl rfl (fun w1 hw => ?_)))))
    obtain rfl := Option.some.inj h
    exact ⟨_, _, rfl, ⟨_, _, _, _, rfl, rfl⟩, hw⟩
   ·
    refine L.nil (E.thenN (W.condF rfl ?_))
    exact W.skip (E.joinJ ⟨rfl, rfl, h⟩ ⟨rfl, trivial⟩ (fun _ hw => hw))
  ·
   rintro _ _ ⟨rfl, rfl, h⟩
   rw [m12_quirref_Log_Sync_K1] at h
   refine W.seq (W.region (L.y rfl (Y.move rfl) ?_))
   refine L.y rfl (Y.move rfl) ?_
   refine L.y rfl (Y.nilCheck rfl) ?_
   refine L.y rfl (Y.fieldP fd68_0 rfl) ?_
   refine L.y rfl (Y.loadP (i := 0) ag27 rfl rfl rfl) ?_
   refine L.to (D := Cls w F [.obj pb0_d [p0_d_Seen, p0_d_Safe, p0_d_late, p0_d_texts, .int .i64 a0_d_left] 48, .sl p0_d_Seen 9 1 (a0_d_Seen.map SR), .sl p0_d_Safe 9 1 (a0_d_Safe.map SR), .sl p0_d_late 3 1 (a0_d_late.map I), .sl p0_d_texts 9 1 (a0_d_texts.map SR), .obj pb0 [pt pb0_d 0, .int .i64 a0_from, .int .i64 a0_size, .int .i64 a0_epoch, .int .i64 a0_at, .int .i64 a0_seq, .bool a0_fell] 68]) (fun _ hw => hw.sel [1, 2, 3, 4, 5, 0] (by decide) rfl) ?_
   obtain ⟨l1, l2, l3, l4, x5, x6, e7, h⟩ := bind6S h
   refine L.doesP (A := [.obj pb0_d [p0_d_Seen, p0_d_Safe, p0_d_late, p0_d_texts, .int .i64 a0_d_left] 48, .sl p0_d_Seen 9 1 (a0_d_Seen.map SR), .sl p0_d_Safe 9 1 (a0_d_Safe.map SR), .sl p0_d_late 3 1 (a0_d_late.map I), .sl p0_d_texts 9 1 (a0_d_texts.map SR)]) (M := [.obj pb0 [pt pb0_d 0, .int .i64 a0_from, .int .i64 a0_size, .int .i64 a0_epoch, .int .i64 a0_at, .int .i64 a0_seq, .bool a0_fell] 68]) rfl en39 rfl (fun w' hw => w39_quirref_Disk_Flush a0_d_Seen a0_d_Safe a0_d_late a0_d_texts a0_d_left pb0_d p0_d_Seen p0_d_Safe p0_d_late p0_d_texts w' _ e7 _ hw.lend) ?_
   rintro _ _ ⟨v8, v9, v10, v11, rfl, rfl⟩
   refine L.to (D := Cls w F [.obj pb0_d [v8, v9, v10, v11, .int .i64 x5] 48, .sl v8 9 1 (l1.map SR), .sl v9 9 1 (l2.map SR), .sl v10 3 1 (l3.map I), .sl v11 9 1 (l4.map SR), .obj pb0 [pt pb0_d 0, .int .i64 a0_from, .int .i64 a0_size, .int .i64 a0_epoch, .int .i64 a0_at, .int .i64 a0_seq, .bool a0_fell] 68]) (fun _ hw => hw) ?_
   refine L.callJ (fun v D => ∃ (gb1 : Bool), v = .int .i64 x6 ∧ D = Cls w F [.obj pb0_d [v8, v9, v10, v11, .int .i64 x5] 48, .obj pb0 [pt pb0_d 0, .int .i64 a0_from, .int .i64 a0_size, .int .i64 a0_epoch, .int .i64 a0_at, .int .i64 a0_seq, .bool gb1] 68, .sl v8 9 1 (l1.map SR), .sl v9 9 1 (l2.map SR), .sl v10 3 1 (l3.map I), .sl v11 9 1 (l4.map SR)] ∧ m12_quirref_Log_Sync_K2 l1 l2 l3 l4 x5 x6 gb1 = some r) rfl en37 rfl Tryd.func37 rfl rfl rfl ?_ ?_
   ·
    refine W.seq (W.region (L.y rfl (Y.assign rfl) ?_))
    refine L.nil (E.thenN (W.seq (W.seq (W.region (L.y rfl (Y.move rfl) ?_)))))
    refine L.ite h rfl (Y.neq rfl rfl) (fun c12 h => ?_) (fun c12 h => ?_)
    ·
     refine L.nil (E.thenN (W.condT rfl ?_))
     refine W.region (L.y rfl (Y.move rfl) ?_)
     refine L.y rfl (Y.nilCheck rfl) ?_
     refine L.y rfl (Y.fieldP fd68_6 rfl) ?_
     refine L.store (i := 5) (vs := [.bool true]) sz4 rfl rfl rfl rfl (by simp [Value.oneCell', Value.cells, st, pt, el]) rfl (Nat.le_of_ble_eq_true rfl) ?_
     refine L.nil (E.thenN (W.seq (W.region (L.y rfl (Y.move rfl) ?_))))
     refine L.y rfl (Y.assign rfl) ?_
     refine L.nil (E.thenN (W.ret (E.ret1 rfl rfl (fun w1 hw => ?_))))
     exact ⟨_, _, rfl, ⟨true, rfl, rfl, h⟩, hw.sel [0, 5, 1, 2, 3, 4] (by decide) rfl⟩
    ·
     refine L.nil (E.thenN (W.condF rfl ?_))
     refine W.skip (E.thenN (W.seq (W.region (L.y rfl (Y.move rfl) ?_))))
     refine L.y rfl (Y.assign rfl) ?_
     refine L.nil (E.thenN (W.ret (E.ret1 rfl rfl (fun w1 hw => ?_))))
     exact ⟨_, _, rfl, ⟨a0_fell, rfl, rfl, h⟩, hw.sel [0, 5, 1, 2, 3, 4] (by decide) rfl⟩
   ·
    rintro _ _ ⟨gb1, rfl, rfl, h⟩
    rw [m12_quirref_Log_Sync_K2] at h
    refine L.y rfl (Y.assign rfl) ?_
    refine L.nil (E.thenN (W.ret (E.ret1 rfl rfl (fun w1 hw => ?_))))
    obtain rfl := Option.some.inj h
    exact ⟨_, _, rfl, ⟨_, _, _, _, rfl, rfl⟩, hw.sel [1, 0, 2, 3, 4, 5] (by decide) rfl⟩
set_option maxRecDepth 100000 in
set_option maxHeartbeats 8000000 in
theorem w13_wal_Log_Reset (a0_d_safe : (List (List UInt8))) (a0_d_seen : (List (List UInt8))) (a0_d_late : (List Twrite)) (a0_d_left : Int) (a0_from : Int) (a0_size : Int) (a0_epoch : Int) (a0_at : Int) (a0_seq : Int) (a0_fell : Bool) (a1 : (List UInt8)) (pb0 : Nat) (pb0_d : Nat) (p0_d_safe : Value) (p0_d_seen : Value) (p0_d_late : Value) (w : World) (r : ((List (List UInt8)) × (List (List UInt8)) × (List Twrite) × Int × Int × Int × Int × Bool × Int)) (h : m13_wal_Log_Reset a0_d_safe a0_d_seen a0_d_late a0_d_left a0_from a0_size a0_epoch a0_at a0_seq a0_fell a1 = some r) (F : List Nat) (hc0 : Cls w F [.obj pb0 [pt pb0_d 0, .int .i64 a0_from, .int .i64 a0_size, .int .i64 a0_epoch, .int .i64 a0_at, .int .i64 a0_seq, .bool a0_fell] 58, .obj pb0_d [p0_d_safe, p0_d_seen, p0_d_late, .int .i64 a0_d_left] 54, .sl p0_d_safe 9 1 (a0_d_safe.map SR), .sl p0_d_seen 9 1 (a0_d_seen.map SR), .sl p0_d_late 75 2 (a0_d_late.map Twrite.row)] w) : DoesF Tryd.prog 13 [pt pb0 0, st a1] F w fun u m => ∃ y1 y2 y3, u = .int .i64 r.2.2.2.2.2.2.2.2 ∧ m = [.obj pb0 [pt pb0_d 0, .int .i64 a0_from, .int .i64 a0_size, .int .i64 r.2.2.2.2.1, .int .i64 r.2.2.2.2.2.1, .int .i64 r.2.2.2.2.2.2.1, .bool r.2.2.2.2.2.2.2.1] 58, .obj pb0_d [y1, y2, y3, .int .i64 r.2.2.2.1] 54, .sl y1 9 1 (r.1.map SR), .sl y2 9 1 (r.2.1.map SR), .sl y3 75 2 (r.2.2.1.map Twrite.row)] := by
  rw [m13_wal_Log_Reset] at h
  refine body (n := 68) Tryd.func13 rfl rfl rfl hc0 ?_
  refine W.seq (W.region (L.y rfl (Y.assign rfl) ?_))
  refine L.nil (E.thenN (W.seqJ (fun gs D => gs = [(0, pt pb0 0), (1, st a1)] ∧ D = Cls w F [.obj pb0 [pt pb0_d 0, .int .i64 a0_from, .int .i64 a0_size, .int .i64 a0_epoch, .int .i64 a0_at, .int .i64 a0_seq, .bool a0_fell] 58, .obj pb0_d [p0_d_safe, p0_d_seen, p0_d_late, .int .i64 a0_d_left] 54, .sl p0_d_safe 9 1 (a0_d_safe.map SR), .sl p0_d_seen 9 1 (a0_d_seen.map SR), .sl p0_d_late 75 2 (a0_d_late.map Twrite.row)] ∧ m13_wal_Log_Reset_K1 a1 a0_d_safe a0_d_seen a0_d_late a0_d_left a0_epoch a0_at a0_seq a0_fell a0_from a0_size = some r) ?_ ?_))
  ·
   refine W.seq (W.region (L.y rfl (Y.move rfl) ?_))
   refine L.y rfl (Y.nilCheck rfl) ?_
   refine L.y rfl (Y.fieldP fd58_6 rfl) ?_
   refine L.iteB h rfl (Y.loadP (i := 0) ag4 rfl rfl rfl) (fun c80 h => ?_) (fun c80 h => ?_)
   ·
    refine L.nil (E.thenN (W.condT rfl ?_))
    refine W.seq (W.region (L.y rfl (Y.assign rfl) ?_))
    refine L.nil (E.thenN (W.ret (E.KSR (E.ret1 rfl rfl (fun w1 hw => ?_)))))
    obtain rfl := Option.some.inj h
    exact ⟨_, _, rfl, ⟨_, _, _, rfl, rfl⟩, hw⟩
   ·
    refine L.nil (E.thenN (W.condF rfl ?_))
    exact W.skip (E.joinJ ⟨rfl, rfl, h⟩ ⟨rfl, rfl, trivial⟩ (fun _ hw => hw))
  ·
   rintro _ _ ⟨rfl, rfl, h⟩
   rw [m13_wal_Log_Reset_K1] at h
   refine W.seqJ (fun gs D => gs = [(0, pt pb0 0), (1, st a1)] ∧ D = Cls w F [.obj pb0 [pt pb0_d 0, .int .i64 a0_from, .int .i64 a0_size, .int .i64 a0_epoch, .int .i64 a0_at, .int .i64 a0_seq, .bool a0_fell] 58, .obj pb0_d [p0_d_safe, p0_d_seen, p0_d_late, .int .i64 a0_d_left] 54, .sl p0_d_safe 9 1 (a0_d_safe.map SR), .sl p0_d_seen 9 1 (a0_d_seen.map SR), .sl p0_d_late 75 2 (a0_d_late.map Twrite.row)] ∧ m13_wal_Log_Reset_K2 a0_epoch a1 a0_d_safe a0_d_seen a0_d_late a0_d_left a0_at a0_seq a0_fell a0_from a0_size = some r) ?_ ?_
   ·
    refine W.seq (W.region (L.y rfl (Y.move rfl) ?_))
    refine L.y rfl (Y.lenS Tryd.underlying9 rfl) ?_
    refine L.ite h rfl (Y.gtr rfl rfl) (fun c79 h => ?_) (fun c79 h => ?_)
    ·
     refine L.nil (E.thenN (W.condT rfl ?_))
     refine W.seq (W.region (L.y rfl (Y.assign rfl) ?_))
     refine L.nil (E.thenN (W.ret (E.KSR (E.ret1 rfl rfl (fun w1 hw => ?_)))))
     obtain rfl := Option.some.inj h
     exact ⟨_, _, rfl, ⟨_, _, _, rfl, rfl⟩, hw⟩
    ·
     refine L.nil (E.thenN (W.condF rfl ?_))
     exact W.skip (E.joinJ ⟨rfl, rfl, h⟩ ⟨rfl, rfl, trivial⟩ (fun _ hw => hw))
   ·
    rintro _ _ ⟨rfl, rfl, h⟩
    rw [m13_wal_Log_Reset_K2] at h
    refine W.seqJ (fun gs D => gs = [(0, pt pb0 0), (1, st a1)] ∧ D = Cls w F [.obj pb0 [pt pb0_d 0, .int .i64 a0_from, .int .i64 a0_size, .int .i64 a0_epoch, .int .i64 a0_at, .int .i64 a0_seq, .bool a0_fell] 58, .obj pb0_d [p0_d_safe, p0_d_seen, p0_d_late, .int .i64 a0_d_left] 54, .sl p0_d_safe 9 1 (a0_d_safe.map SR), .sl p0_d_seen 9 1 (a0_d_seen.map SR), .sl p0_d_late 75 2 (a0_d_late.map Twrite.row)] ∧ m13_wal_Log_Reset_K3 a0_d_safe a0_d_seen a0_d_late a0_d_left a0_from a0_size a0_epoch a0_at a0_seq a0_fell a1 = some r) ?_ ?_
    ·
     refine W.seq (W.region (L.y rfl (Y.move rfl) ?_))
     refine L.y rfl (Y.nilCheck rfl) ?_
     refine L.y rfl (Y.fieldP fd58_3 rfl) ?_
     refine L.y rfl (Y.loadP (i := 0) ag3 rfl rfl rfl) ?_
     refine L.m (V := fun x74 => .int .i64 x74) h rfl (Y.addM rfl rfl) (fun x74 ex74 h => ?_)
     refine L.y rfl (Y.move rfl) ?_
     obtain ⟨l75, e77, h⟩ := bind1S h
     refine L.does rfl en32 rfl (fun w' hw => w32_wal_sectors x74 0 a1 w' _ e77) ?_
     rintro v76 _ ⟨_, rfl, rfl⟩
     refine L.y rfl (Y.lenM (g := SR) (l := l75) Tryd.underlying30 rfl (fun w hw => As.at_ (hw.get (i := 0) rfl))) ?_
     refine L.ite h rfl (Y.gtr rfl rfl) (fun c78 h => ?_) (fun c78 h => ?_)
     ·
      refine L.nil (E.thenN (W.condT rfl ?_))
      refine W.seq (W.region (L.y rfl (Y.assign rfl) ?_))
      refine L.nil (E.thenN (W.ret (E.KSR (E.ret1 rfl rfl (fun w1 hw => ?_)))))
      obtain rfl := Option.some.inj h
      exact ⟨_, _, rfl, ⟨_, _, _, rfl, rfl⟩, hw.sel [1, 2, 3, 4, 5] (by decide) rfl⟩
     ·
      refine L.nil (E.thenN (W.condF rfl ?_))
      exact W.skip (E.joinJ ⟨rfl, rfl, h⟩ ⟨rfl, rfl, trivial⟩ (fun _ hw => hw.sel [1, 2, 3, 4, 5] (by decide) rfl))
    ·
     rintro _ _ ⟨rfl, rfl, h⟩
     rw [m13_wal_Log_Reset_K3] at h
     refine W.seqJ (fun gs D => ∃ (gx1 : Int) (gb2 : Bool) (gv3 : Value) (gl4 : (List (List UInt8))) (gv5 : Value) (gl6 : (List (List UInt8))) (gv7 : Value) (gl8 : (List Twrite)) (gx9 : Int), gs = [(0, pt pb0 0), (1, st a1)] ∧ D = Cls w F [.obj pb0 [pt pb0_d 0, .int .i64 a0_from, .int .i64 a0_size, .int .i64 gx1, .int .i64 a0_at, .int .i64 a0_seq, .bool gb2] 58, .obj pb0_d [gv3, gv5, gv7, .int .i64 gx9] 54, .sl gv3 9 1 (gl4.map SR), .sl gv5 9 1 (gl6.map SR), .sl gv7 75 2 (gl8.map Twrite.row)] ∧ m13_wal_Log_Reset_K4 a0_from a1 a0_at a0_seq gx1 gb2 gl4 gl6 gl8 gx9 = some r) ?_ ?_
     ·
      refine W.seq (W.region (L.y rfl (Y.move rfl) ?_))
      obtain ⟨l62, l63, l64, x65, x66, b67, x68, e69, h⟩ := bind7S h
      refine L.doesP (A := [.obj pb0 [pt pb0_d 0, .int .i64 a0_from, .int .i64 a0_size, .int .i64 a0_epoch, .int .i64 a0_at, .int .i64 a0_seq, .bool a0_fell] 58, .obj pb0_d [p0_d_safe, p0_d_seen, p0_d_late, .int .i64 a0_d_left] 54, .sl p0_d_safe 9 1 (a0_d_safe.map SR), .sl p0_d_seen 9 1 (a0_d_seen.map SR), .sl p0_d_late 75 2 (a0_d_late.map Twrite.row)]) (M := []) rfl en27 rfl (fun w' hw => w27_wal_Log_raise a0_d_safe a0_d_seen a0_d_late a0_d_left a0_from a0_size a0_epoch a0_at a0_seq a0_fell pb0 pb0_d p0_d_safe p0_d_seen p0_d_late w' _ e69 _ hw.lend) ?_
      rintro _ _ ⟨v70, v71, v72, rfl, rfl⟩
      refine L.to (D := Cls w F [.obj pb0 [pt pb0_d 0, .int .i64 a0_from, .int .i64 a0_size, .int .i64 x66, .int .i64 a0_at, .int .i64 a0_seq, .bool b67] 58, .obj pb0_d [v70, v71, v72, .int .i64 x65] 54, .sl v70 9 1 (l62.map SR), .sl v71 9 1 (l63.map SR), .sl v72 75 2 (l64.map Twrite.row)]) (fun _ hw => hw) ?_
      refine L.y rfl (Y.assign rfl) ?_
      refine L.nil (E.thenN (W.seq (W.region (L.y rfl (Y.move rfl) ?_))))
      refine L.ite h rfl (Y.neq rfl rfl) (fun c73 h => ?_) (fun c73 h => ?_)
      ·
       refine L.nil (E.thenN (W.condT rfl ?_))
       refine W.seq (W.region (L.y rfl (Y.move rfl) ?_))
       refine L.y rfl (Y.assign rfl) ?_
       refine L.nil (E.thenN (W.ret (E.KSR (E.ret1 rfl rfl (fun w1 hw => ?_)))))
       obtain rfl := Option.some.inj h
       exact ⟨_, _, rfl, ⟨_, _, _, rfl, rfl⟩, hw⟩
      ·
       refine L.nil (E.thenN (W.condF rfl ?_))
       exact W.skip (E.joinJ ⟨x66, b67, v70, l62, v71, l63, v72, l64, x65, rfl, rfl, h⟩ ⟨rfl, rfl, trivial⟩ (fun _ hw => hw))
     ·
      rintro _ _ ⟨gx1, gb2, gv3, gl4, gv5, gl6, gv7, gl8, gx9, rfl, rfl, h⟩
      rw [m13_wal_Log_Reset_K4] at h
      refine W.seqJ (fun gs D => ∃ (gv10 : Value) (gl11 : (List (List UInt8))) (gv12 : Value) (gl13 : (List Twrite)) (gx14 : Int), gs = [(0, pt pb0 0)] ∧ D = Cls w F [.obj pb0 [pt pb0_d 0, .int .i64 a0_from, .int .i64 a0_size, .int .i64 gx1, .int .i64 a0_at, .int .i64 a0_seq, .bool gb2] 58, .obj pb0_d [gv3, gv10, gv12, .int .i64 gx14] 54, .sl gv3 9 1 (gl4.map SR), .sl gv10 9 1 (gl11.map SR), .sl gv12 75 2 (gl13.map Twrite.row)] ∧ m13_wal_Log_Reset_K5 gl4 gb2 gx1 a0_at a0_seq gl11 gl13 gx14 = some r) ?_ ?_
      ·
       refine W.seq (W.drawn2 (k := 19) (stC [[17]] [Cls w F [.obj pb0 [pt pb0_d 0, .int .i64 a0_from, .int .i64 a0_size, .int .i64 gx1, .int .i64 a0_at, .int .i64 a0_seq, .bool gb2] 58, .obj pb0_d [gv3, gv5, gv7, .int .i64 gx9] 54, .sl gv3 9 1 (gl4.map SR), .sl gv5 9 1 (gl6.map SR), .sl gv7 75 2 (gl8.map Twrite.row)]] (Cls w F [.obj pb0 [pt pb0_d 0, .int .i64 a0_from, .int .i64 a0_size, .int .i64 gx1, .int .i64 a0_at, .int .i64 a0_seq, .bool gb2] 58, .sl gv3 9 1 (gl4.map SR)])) rfl mixed (fun _ hw => hw.drew) (Sc.now (by kernel_rfl) (fun _ hw => hw)) ?_)
       refine V2.y (i := 0) (Nx2.of (Z := Cls w F [.obj pb0 [pt pb0_d 0, .int .i64 a0_from, .int .i64 a0_size, .int .i64 gx1, .int .i64 a0_at, .int .i64 a0_seq, .bool gb2] 58, .sl gv3 9 1 (gl4.map SR)]) [] (by kernel_rfl) rfl (Zc.on (fun _ hw => hw.sel [0, 2] (by decide) rfl) (Zc.fin (fun _ hw => hw)))) rfl rfl rfl (Y.move rfl) ?_
       refine V2.nilc (i := 1) (Nx2.of (Z := Cls w F [.obj pb0 [pt pb0_d 0, .int .i64 a0_from, .int .i64 a0_size, .int .i64 gx1, .int .i64 a0_at, .int .i64 a0_seq, .bool gb2] 58, .sl gv3 9 1 (gl4.map SR)]) [] (by kernel_rfl) rfl (Zc.on (fun _ hw => hw.sel [0, 2] (by decide) rfl) (Zc.fin (fun _ hw => hw)))) rfl rfl rfl ?_
       refine V2.y (i := 2) (Nx2.of (Z := Cls w F [.obj pb0 [pt pb0_d 0, .int .i64 a0_from, .int .i64 a0_size, .int .i64 gx1, .int .i64 a0_at, .int .i64 a0_seq, .bool gb2] 58, .sl gv3 9 1 (gl4.map SR)]) [] (by kernel_rfl) rfl (Zc.on (fun _ hw => hw.sel [0, 2] (by decide) rfl) (Zc.fin (fun _ hw => hw)))) rfl rfl rfl (Y.fieldP fd58_0 rfl) ?_
       refine V2.y (i := 3) (Nx2.of (Z := Cls w F [.obj pb0 [pt pb0_d 0, .int .i64 a0_from, .int .i64 a0_size, .int .i64 gx1, .int .i64 a0_at, .int .i64 a0_seq, .bool gb2] 58, .sl gv3 9 1 (gl4.map SR)]) [] (by kernel_rfl) rfl (Zc.on (fun _ hw => hw.sel [0, 2] (by decide) rfl) (Zc.fin (fun _ hw => hw)))) rfl rfl rfl (Y.loadP (i := 0) ag23 rfl rfl rfl) ?_
       refine V2.y (i := 4) (Nx2.of (Z := Cls w F [.obj pb0 [pt pb0_d 0, .int .i64 a0_from, .int .i64 a0_size, .int .i64 gx1, .int .i64 a0_at, .int .i64 a0_seq, .bool gb2] 58, .sl gv3 9 1 (gl4.map SR)]) [] (by kernel_rfl) rfl (Zc.on (fun _ hw => hw.sel [0, 2] (by decide) rfl) (Zc.fin (fun _ hw => hw)))) rfl rfl rfl (Y.move rfl) ?_
       refine V2.nilc (i := 5) (Nx2.of (Z := Cls w F [.obj pb0 [pt pb0_d 0, .int .i64 a0_from, .int .i64 a0_size, .int .i64 gx1, .int .i64 a0_at, .int .i64 a0_seq, .bool gb2] 58, .sl gv3 9 1 (gl4.map SR)]) [] (by kernel_rfl) rfl (Zc.on (fun _ hw => hw.sel [0, 2] (by decide) rfl) (Zc.fin (fun _ hw => hw)))) rfl rfl rfl ?_
       refine V2.y (i := 6) (Nx2.of (Z := Cls w F [.obj pb0 [pt pb0_d 0, .int .i64 a0_from, .int .i64 a0_size, .int .i64 gx1, .int .i64 a0_at, .int .i64 a0_seq, .bool gb2] 58, .sl gv3 9 1 (gl4.map SR)]) [] (by kernel_rfl) rfl (Zc.on (fun _ hw => hw.sel [0, 2] (by decide) rfl) (Zc.fin (fun _ hw => hw)))) rfl rfl rfl (Y.fieldP fd58_1 rfl) ?_
       refine V2.y (i := 7) (Nx2.of (Z := Cls w F [.obj pb0 [pt pb0_d 0, .int .i64 a0_from, .int .i64 a0_size, .int .i64 gx1, .int .i64 a0_at, .int .i64 a0_seq, .bool gb2] 58, .sl gv3 9 1 (gl4.map SR)]) [] (by kernel_rfl) rfl (Zc.on (fun _ hw => hw.sel [0, 2] (by decide) rfl) (Zc.fin (fun _ hw => hw)))) rfl rfl rfl (Y.loadP (i := 0) ag3 rfl rfl rfl) ?_
       refine V2.m (i := 8) (V' := fun x48 => .int .i64 x48) h (Nx2.of (Z := Cls w F [.obj pb0 [pt pb0_d 0, .int .i64 a0_from, .int .i64 a0_size, .int .i64 gx1, .int .i64 a0_at, .int .i64 a0_seq, .bool gb2] 58, .sl gv3 9 1 (gl4.map SR)]) [] (by kernel_rfl) rfl (Zc.on (fun _ hw => hw.sel [0, 2] (by decide) rfl) (Zc.fin (fun _ hw => hw)))) rfl rfl rfl (Y.addM rfl rfl) (fun x48 ex48 h => ?_)
       refine V2.y (i := 9) (Nx2.of (Z := Cls w F [.obj pb0 [pt pb0_d 0, .int .i64 a0_from, .int .i64 a0_size, .int .i64 gx1, .int .i64 a0_at, .int .i64 a0_seq, .bool gb2] 58, .sl gv3 9 1 (gl4.map SR)]) [] (by kernel_rfl) rfl (Zc.on (fun _ hw => hw.sel [0, 2] (by decide) rfl) (Zc.fin (fun _ hw => hw)))) rfl rfl rfl (Y.move rfl) ?_
       refine V2.nilc (i := 10) (Nx2.of (Z := Cls w F [.obj pb0 [pt pb0_d 0, .int .i64 a0_from, .int .i64 a0_size, .int .i64 gx1, .int .i64 a0_at, .int .i64 a0_seq, .bool gb2] 58, .sl gv3 9 1 (gl4.map SR)]) [] (by kernel_rfl) rfl (Zc.on (fun _ hw => hw.sel [0, 2] (by decide) rfl) (Zc.fin (fun _ hw => hw)))) rfl rfl rfl ?_
       refine V2.y (i := 11) (Nx2.of (Z := Cls w F [.obj pb0 [pt pb0_d 0, .int .i64 a0_from, .int .i64 a0_size, .int .i64 gx1, .int .i64 a0_at, .int .i64 a0_seq, .bool gb2] 58, .sl gv3 9 1 (gl4.map SR)]) [] (by kernel_rfl) rfl (Zc.on (fun _ hw => hw.sel [0, 2] (by decide) rfl) (Zc.fin (fun _ hw => hw)))) rfl rfl rfl (Y.fieldP fd58_3 rfl) ?_
       refine V2.y (i := 12) (Nx2.of (Z := Cls w F [.obj pb0 [pt pb0_d 0, .int .i64 a0_from, .int .i64 a0_size, .int .i64 gx1, .int .i64 a0_at, .int .i64 a0_seq, .bool gb2] 58, .sl gv3 9 1 (gl4.map SR)]) [] (by kernel_rfl) rfl (Zc.on (fun _ hw => hw.sel [0, 2] (by decide) rfl) (Zc.fin (fun _ hw => hw)))) rfl rfl rfl (Y.loadP (i := 0) ag3 rfl rfl rfl) ?_
       refine V2.y (i := 13) (Nx2.of (Z := Cls w F [.obj pb0 [pt pb0_d 0, .int .i64 a0_from, .int .i64 a0_size, .int .i64 gx1, .int .i64 a0_at, .int .i64 a0_seq, .bool gb2] 58, .sl gv3 9 1 (gl4.map SR)]) [] (by kernel_rfl) rfl (Zc.on (fun _ hw => hw.sel [0, 2] (by decide) rfl) (Zc.fin (fun _ hw => hw)))) rfl rfl rfl (Y.move rfl) ?_
       refine V2.eff (i := 14) (by kernel_rfl) rfl ?_
       obtain ⟨l49, e51, h⟩ := bind1S h
       refine L.does rfl en32 rfl (fun w' hw => w32_wal_sectors gx1 0 a1 w' _ e51) ?_
       rintro v50 _ ⟨_, rfl, rfl⟩
       refine L.nil (E.toV2 (stC [[17]] [Cls w F [.sl v50 9 1 (l49.map SR), .obj pb0 [pt pb0_d 0, .int .i64 a0_from, .int .i64 a0_size, .int .i64 gx1, .int .i64 a0_at, .int .i64 a0_seq, .bool gb2] 58, .obj pb0_d [gv3, gv5, gv7, .int .i64 gx9] 54, .sl gv3 9 1 (gl4.map SR), .sl gv5 9 1 (gl6.map SR), .sl gv7 75 2 (gl8.map Twrite.row)]] (Cls w F [.sl v50 9 1 (l49.map SR), .obj pb0 [pt pb0_d 0, .int .i64 a0_from, .int .i64 a0_size, .int .i64 gx1, .int .i64 a0_at, .int .i64 a0_seq, .bool gb2] 58, .sl gv3 9 1 (gl4.map SR)])) 14 (by kernel_rfl) (Sc.stay (fun _ hw => hw.sel [1, 2, 3, 4, 5] (by decide) rfl) (Sc.stayD (fun _ hw => hw.sel [1, 2] (by decide) rfl))) (Sc.now (by kernel_rfl) (fun _ hw => hw)) ?_)
       refine V2.m (i := 15) (V' := fun _ => el v50 ((0 : Int).toNat * 1)) h (Nx2.of (Z := Cls w F [.sl v50 9 1 (l49.map SR), .obj pb0 [pt pb0_d 0, .int .i64 a0_from, .int .i64 a0_size, .int .i64 gx1, .int .i64 a0_at, .int .i64 a0_seq, .bool gb2] 58, .sl gv3 9 1 (gl4.map SR)]) [] (by kernel_rfl) rfl (Zc.on (fun _ hw => hw.sel [0, 1, 3] (by decide) rfl) (Zc.fin (fun _ hw => hw)))) rfl rfl rfl (Y.indexM (g := SR) (l := l49) Tryd.underlying30 sz9 rfl rfl (fun w hw => As.at_ (hw.get (i := 0) rfl))) (fun x52 ex52 h => ?_)
       refine V2.y (i := 16) (Nx2.of (Z := Cls w F [.sl v50 9 1 (l49.map SR), .obj pb0 [pt pb0_d 0, .int .i64 a0_from, .int .i64 a0_size, .int .i64 gx1, .int .i64 a0_at, .int .i64 a0_seq, .bool gb2] 58, .sl gv3 9 1 (gl4.map SR)]) [] (by kernel_rfl) rfl (Zc.on (fun _ hw => hw.sel [0, 1, 3] (by decide) rfl) (Zc.fin (fun _ hw => hw)))) rfl rfl rfl (Y.loadE1 (u := st x52) ag9 rfl (fun w hw => As.at_ (hw.get (i := 0) rfl)) (idx_map ex52)) ?_
       refine V2.eff (i := 17) (by kernel_rfl) rfl ?_
       refine L.to (D := Cls w F [.obj pb0_d [gv3, gv5, gv7, .int .i64 gx9] 54, .sl gv3 9 1 (gl4.map SR), .sl gv5 9 1 (gl6.map SR), .sl gv7 75 2 (gl8.map Twrite.row), .sl v50 9 1 (l49.map SR), .obj pb0 [pt pb0_d 0, .int .i64 a0_from, .int .i64 a0_size, .int .i64 gx1, .int .i64 a0_at, .int .i64 a0_seq, .bool gb2] 58]) (fun _ hw => hw.sel [2, 3, 4, 5, 0, 1] (by decide) rfl) ?_
       obtain ⟨l53, l54, x55, x56, e57, h⟩ := bind4S h
       refine L.doesP (A := [.obj pb0_d [gv3, gv5, gv7, .int .i64 gx9] 54, .sl gv3 9 1 (gl4.map SR), .sl gv5 9 1 (gl6.map SR), .sl gv7 75 2 (gl8.map Twrite.row)]) (M := [.sl v50 9 1 (l49.map SR), .obj pb0 [pt pb0_d 0, .int .i64 a0_from, .int .i64 a0_size, .int .i64 gx1, .int .i64 a0_at, .int .i64 a0_seq, .bool gb2] 58]) rfl en33 rfl (fun w' hw => w33_sect_Disk_Write gl4 gl6 gl8 gx9 x48 x52 pb0_d gv3 gv5 gv7 w' _ e57 _ hw.lend) ?_
       rintro _ _ ⟨v58, v59, rfl, rfl⟩
       refine L.to (D := Cls w F [.obj pb0_d [gv3, v58, v59, .int .i64 x55] 54, .sl gv3 9 1 (gl4.map SR), .sl v58 9 1 (l53.map SR), .sl v59 75 2 (l54.map Twrite.row), .sl v50 9 1 (l49.map SR), .obj pb0 [pt pb0_d 0, .int .i64 a0_from, .int .i64 a0_size, .int .i64 gx1, .int .i64 a0_at, .int .i64 a0_seq, .bool gb2] 58]) (fun _ hw => hw) ?_
       refine L.nil (E.toV2 (stC [] [] (Cls w F [.sl gv3 9 1 (gl4.map SR), .sl v58 9 1 (l53.map SR), .sl v59 75 2 (l54.map Twrite.row), .sl v50 9 1 (l49.map SR), .obj pb0 [pt pb0_d 0, .int .i64 a0_from, .int .i64 a0_size, .int .i64 gx1, .int .i64 a0_at, .int .i64 a0_seq, .bool gb2] 58])) 17 (by kernel_rfl) (Sc.past rfl (Sc.stayD (fun _ hw => hw.sel [3, 4, 0] (by decide) rfl))) (Sc.atD (fun _ hw => hw.sel [1, 2, 3, 4, 5] (by decide) rfl)) ?_)
       refine V2.y (i := 18) (Nx2.of (Z := Cls w F [.sl gv3 9 1 (gl4.map SR), .sl v58 9 1 (l53.map SR), .sl v59 75 2 (l54.map Twrite.row), .sl v50 9 1 (l49.map SR), .obj pb0 [pt pb0_d 0, .int .i64 a0_from, .int .i64 a0_size, .int .i64 gx1, .int .i64 a0_at, .int .i64 a0_seq, .bool gb2] 58]) [] (by kernel_rfl) rfl (Zc.fin (fun _ hw => hw))) rfl rfl rfl (Y.assign rfl) ?_
       refine V2.done (by kernel_rfl) ?_
       refine E.thenN (W.seq (W.region (L.y rfl (Y.move rfl) ?_)))
       refine L.ite h rfl (Y.neq rfl rfl) (fun c60 h => ?_) (fun c60 h => ?_)
       ·
        refine L.nil (E.thenN (W.condT rfl ?_))
        refine W.seq (W.region (L.y rfl (Y.move rfl) ?_))
        refine L.y rfl (Y.move rfl) ?_
        refine L.callJ (fun v D => ∃ (gb16 : Bool), v = .int .i64 x56 ∧ D = Cls w F [.obj pb0_d [gv3, v58, v59, .int .i64 x55] 54, .obj pb0 [pt pb0_d 0, .int .i64 a0_from, .int .i64 a0_size, .int .i64 gx1, .int .i64 a0_at, .int .i64 a0_seq, .bool gb16] 58, .sl gv3 9 1 (gl4.map SR), .sl v58 9 1 (l53.map SR), .sl v59 75 2 (l54.map Twrite.row)] ∧ m13_wal_Log_Reset_K7 gl4 l53 l54 x55 gx1 a0_at a0_seq x56 gb16 = some r) rfl en34 rfl Tryd.func34 rfl rfl rfl ?_ ?_
        ·
         refine W.seq (W.region (L.y rfl (Y.assign rfl) ?_))
         refine L.nil (E.thenN (W.seq (W.region (L.y rfl (Y.move rfl) ?_))))
         refine L.y rfl (Y.move rfl) ?_
         refine L.y rfl (Y.nilCheck rfl) ?_
         refine L.y rfl (Y.fieldP fd58_6 rfl) ?_
         refine L.iteB h rfl (Y.loadP (i := 5) ag4 rfl rfl rfl) (fun c61 h => ?_) (fun c61 h => ?_)
         ·
          refine L.y rfl (Y.move rfl) ?_
          refine L.pass rfl rfl (by nofun) ?_
          refine L.pass rfl rfl (by nofun) ?_
          refine L.y rfl (Y.pickT rfl rfl) ?_
          refine L.y rfl (Y.nilCheck rfl) ?_
          refine L.y rfl (Y.fieldP fd58_6 rfl) ?_
          refine L.store (i := 5) (vs := [.bool true]) sz4 rfl rfl rfl rfl (by simp [Value.oneCell', Value.cells, st, pt, el]) rfl (Nat.le_of_ble_eq_true rfl) ?_
          refine L.nil (E.thenN (W.seq (W.region (L.y rfl (Y.move rfl) ?_))))
          refine L.y rfl (Y.assign rfl) ?_
          refine L.nil (E.thenN (W.ret (E.ret1 rfl rfl (fun w1 hw => ?_))))
          exact ⟨_, _, rfl, ⟨true, rfl, rfl, h⟩, hw.sel [0, 5, 1, 2, 3] (by decide) rfl⟩
         ·
          refine L.y rfl (Y.move rfl) ?_
          refine L.take rfl (L.y rfl (Y.move rfl) ?_)
          refine L.take rfl (L.y rfl (Y.neq rfl rfl) ?_)
          refine L.y rfl (Y.pickF rfl rfl) ?_
          refine L.y rfl (Y.nilCheck rfl) ?_
          refine L.y rfl (Y.fieldP fd58_6 rfl) ?_
          refine L.store (i := 5) (vs := [.bool (decide (x56 ≠ 0))]) sz4 rfl rfl rfl rfl (by simp [Value.oneCell', Value.cells, st, pt, el]) rfl (Nat.le_of_ble_eq_true rfl) ?_
          refine L.nil (E.thenN (W.seq (W.region (L.y rfl (Y.move rfl) ?_))))
          refine L.y rfl (Y.assign rfl) ?_
          refine L.nil (E.thenN (W.ret (E.ret1 rfl rfl (fun w1 hw => ?_))))
          exact ⟨_, _, rfl, ⟨decide (x56 ≠ 0), rfl, rfl, h⟩, hw.sel [0, 5, 1, 2, 3] (by decide) rfl⟩
        ·
         rintro _ _ ⟨gb16, rfl, rfl, h⟩
         rw [m13_wal_Log_Reset_K7] at h
         refine L.y rfl (Y.assign rfl) ?_
         refine L.nil (E.thenN (W.ret (E.KSR (E.ret1 rfl rfl (fun w1 hw => ?_)))))
         obtain rfl := Option.some.inj h
         exact ⟨_, _, rfl, ⟨_, _, _, rfl, rfl⟩, hw.sel [1, 0, 2, 3, 4] (by decide) rfl⟩
       ·
        refine L.nil (E.thenN (W.condF rfl ?_))
        exact W.skip (E.joinJ ⟨v58, l53, v59, l54, x55, rfl, rfl, h⟩ ⟨rfl, trivial⟩ (fun _ hw => hw.sel [5, 0, 1, 2, 3] (by decide) rfl))
      ·
       rintro _ _ ⟨gv10, gl11, gv12, gl13, gx14, rfl, rfl, h⟩
       rw [m13_wal_Log_Reset_K5] at h
       refine W.seq (W.seq (W.region (L.y rfl (Y.move rfl) ?_)))
       refine L.y rfl (Y.nilCheck rfl) ?_
       refine L.y rfl (Y.fieldP fd58_0 rfl) ?_
       refine L.y rfl (Y.loadP (i := 0) ag23 rfl rfl rfl) ?_
       refine L.to (D := Cls w F [.obj pb0_d [gv3, gv10, gv12, .int .i64 gx14] 54, .sl gv3 9 1 (gl4.map SR), .sl gv10 9 1 (gl11.map SR), .sl gv12 75 2 (gl13.map Twrite.row), .obj pb0 [pt pb0_d 0, .int .i64 a0_from, .int .i64 a0_size, .int .i64 gx1, .int .i64 a0_at, .int .i64 a0_seq, .bool gb2] 58]) (fun _ hw => hw.sel [1, 2, 3, 4, 0] (by decide) rfl) ?_
       obtain ⟨l1, l2, l3, x4, x5, e6, h⟩ := bind5S h
       refine L.doesP (A := [.obj pb0_d [gv3, gv10, gv12, .int .i64 gx14] 54, .sl gv3 9 1 (gl4.map SR), .sl gv10 9 1 (gl11.map SR), .sl gv12 75 2 (gl13.map Twrite.row)]) (M := [.obj pb0 [pt pb0_d 0, .int .i64 a0_from, .int .i64 a0_size, .int .i64 gx1, .int .i64 a0_at, .int .i64 a0_seq, .bool gb2] 58]) rfl en38 rfl (fun w' hw => w38_sect_Disk_Flush gl4 gl11 gl13 gx14 pb0_d gv3 gv10 gv12 w' _ e6 _ hw.lend) ?_
       rintro _ _ ⟨v7, v8, v9, rfl, rfl⟩
       refine L.to (D := Cls w F [.obj pb0_d [v7, v8, v9, .int .i64 x4] 54, .sl v7 9 1 (l1.map SR), .sl v8 9 1 (l2.map SR), .sl v9 75 2 (l3.map Twrite.row), .obj pb0 [pt pb0_d 0, .int .i64 a0_from, .int .i64 a0_size, .int .i64 gx1, .int .i64 a0_at, .int .i64 a0_seq, .bool gb2] 58]) (fun _ hw => hw) ?_
       refine L.y rfl (Y.assign rfl) ?_
       refine L.nil (E.thenN (W.seq (W.region (L.y rfl (Y.move rfl) ?_))))
       refine L.ite h rfl (Y.neq rfl rfl) (fun c10 h => ?_) (fun c10 h => ?_)
       ·
        refine L.nil (E.thenN (W.condT rfl ?_))
        refine W.seq (W.region (L.y rfl (Y.move rfl) ?_))
        refine L.y rfl (Y.move rfl) ?_
        refine L.callJ (fun v D => ∃ (gb15 : Bool), v = .int .i64 x5 ∧ D = Cls w F [.obj pb0_d [v7, v8, v9, .int .i64 x4] 54, .obj pb0 [pt pb0_d 0, .int .i64 a0_from, .int .i64 a0_size, .int .i64 gx1, .int .i64 a0_at, .int .i64 a0_seq, .bool gb15] 58, .sl v7 9 1 (l1.map SR), .sl v8 9 1 (l2.map SR), .sl v9 75 2 (l3.map Twrite.row)] ∧ m13_wal_Log_Reset_K6 l1 l2 l3 x4 gx1 a0_at a0_seq x5 gb15 = some r) rfl en34 rfl Tryd.func34 rfl rfl rfl ?_ ?_
        ·
         refine W.seq (W.region (L.y rfl (Y.assign rfl) ?_))
         refine L.nil (E.thenN (W.seq (W.region (L.y rfl (Y.move rfl) ?_))))
         refine L.y rfl (Y.move rfl) ?_
         refine L.y rfl (Y.nilCheck rfl) ?_
         refine L.y rfl (Y.fieldP fd58_6 rfl) ?_
         refine L.iteB h rfl (Y.loadP (i := 4) ag4 rfl rfl rfl) (fun c11 h => ?_) (fun c11 h => ?_)
         ·
          refine L.y rfl (Y.move rfl) ?_
          refine L.pass rfl rfl (by nofun) ?_
          refine L.pass rfl rfl (by nofun) ?_
          refine L.y rfl (Y.pickT rfl rfl) ?_
          refine L.y rfl (Y.nilCheck rfl) ?_
          refine L.y rfl (Y.fieldP fd58_6 rfl) ?_
          refine L.store (i := 4) (vs := [.bool true]) sz4 rfl rfl rfl rfl (by simp [Value.oneCell', Value.cells, st, pt, el]) rfl (Nat.le_of_ble_eq_true rfl) ?_
          refine L.nil (E.thenN (W.seq (W.region (L.y rfl (Y.move rfl) ?_))))
          refine L.y rfl (Y.assign rfl) ?_
          refine L.nil (E.thenN (W.ret (E.ret1 rfl rfl (fun w1 hw => ?_))))
          exact ⟨_, _, rfl, ⟨true, rfl, rfl, h⟩, hw.sel [0, 4, 1, 2, 3] (by decide) rfl⟩
         ·
          refine L.y rfl (Y.move rfl) ?_
          refine L.take rfl (L.y rfl (Y.move rfl) ?_)
          refine L.take rfl (L.y rfl (Y.neq rfl rfl) ?_)
          refine L.y rfl (Y.pickF rfl rfl) ?_
          refine L.y rfl (Y.nilCheck rfl) ?_
          refine L.y rfl (Y.fieldP fd58_6 rfl) ?_
          refine L.store (i := 4) (vs := [.bool (decide (x5 ≠ 0))]) sz4 rfl rfl rfl rfl (by simp [Value.oneCell', Value.cells, st, pt, el]) rfl (Nat.le_of_ble_eq_true rfl) ?_
          refine L.nil (E.thenN (W.seq (W.region (L.y rfl (Y.move rfl) ?_))))
          refine L.y rfl (Y.assign rfl) ?_
          refine L.nil (E.thenN (W.ret (E.ret1 rfl rfl (fun w1 hw => ?_))))
          exact ⟨_, _, rfl, ⟨decide (x5 ≠ 0), rfl, rfl, h⟩, hw.sel [0, 4, 1, 2, 3] (by decide) rfl⟩
        ·
         rintro _ _ ⟨gb15, rfl, rfl, h⟩
         rw [m13_wal_Log_Reset_K6] at h
         refine L.y rfl (Y.assign rfl) ?_
         refine L.nil (E.thenN (W.ret (E.thenR (E.ret1 rfl rfl (fun w1 hw => ?_)))))
         obtain rfl := Option.some.inj h
         exact ⟨_, _, rfl, ⟨_, _, _, rfl, rfl⟩, hw.sel [1, 0, 2, 3, 4] (by decide) rfl⟩
       ·
        refine L.nil (E.thenN (W.condF rfl ?_))
        refine W.skip (E.thenN (W.seq (W.region (L.y rfl (Y.move rfl) ?_))))
        refine L.y rfl (Y.move rfl) ?_
        refine L.y rfl (Y.nilCheck rfl) ?_
        refine L.y rfl (Y.fieldP fd58_4 rfl) ?_
        refine L.store (i := 4) (vs := [.int .i64 2]) sz3 rfl rfl rfl rfl (by simp [Value.oneCell', Value.cells, st, pt, el]) rfl (Nat.le_of_ble_eq_true rfl) ?_
        refine L.y rfl (Y.nilCheck rfl) ?_
        refine L.y rfl (Y.fieldP fd58_5 rfl) ?_
        refine L.store (i := 4) (vs := [.int .i64 1]) sz3 rfl rfl rfl rfl (by simp [Value.oneCell', Value.cells, st, pt, el]) rfl (Nat.le_of_ble_eq_true rfl) ?_
        refine L.nil (E.thenN (W.seq (W.region (L.y rfl (Y.assign rfl) ?_))))
        refine L.nil (E.thenN (W.ret (E.ret1 rfl rfl (fun w1 hw => ?_))))
        obtain rfl := Option.some.inj h
        exact ⟨_, _, rfl, ⟨_, _, _, rfl, rfl⟩, hw.sel [4, 0, 1, 2, 3] (by decide) rfl⟩
set_option maxRecDepth 100000 in
set_option maxHeartbeats 8000000 in
theorem w14_quirref_Log_Reset (a0_d_Seen : (List (List UInt8))) (a0_d_Safe : (List (List UInt8))) (a0_d_late : (List Int)) (a0_d_texts : (List (List UInt8))) (a0_d_left : Int) (a0_from : Int) (a0_size : Int) (a0_epoch : Int) (a0_at : Int) (a0_seq : Int) (a0_fell : Bool) (a1 : (List UInt8)) (pb0 : Nat) (pb0_d : Nat) (p0_d_Seen : Value) (p0_d_Safe : Value) (p0_d_late : Value) (p0_d_texts : Value) (w : World) (r : ((List (List UInt8)) × (List (List UInt8)) × (List Int) × (List (List UInt8)) × Int × Int × Int × Int × Bool × Int)) (h : m14_quirref_Log_Reset a0_d_Seen a0_d_Safe a0_d_late a0_d_texts a0_d_left a0_from a0_size a0_epoch a0_at a0_seq a0_fell a1 = some r) (F : List Nat) (hc0 : Cls w F [.obj pb0 [pt pb0_d 0, .int .i64 a0_from, .int .i64 a0_size, .int .i64 a0_epoch, .int .i64 a0_at, .int .i64 a0_seq, .bool a0_fell] 68, .obj pb0_d [p0_d_Seen, p0_d_Safe, p0_d_late, p0_d_texts, .int .i64 a0_d_left] 48, .sl p0_d_Seen 9 1 (a0_d_Seen.map SR), .sl p0_d_Safe 9 1 (a0_d_Safe.map SR), .sl p0_d_late 3 1 (a0_d_late.map I), .sl p0_d_texts 9 1 (a0_d_texts.map SR)] w) : DoesF Tryd.prog 14 [pt pb0 0, st a1] F w fun u m => ∃ y1 y2 y3 y4, u = .int .i64 r.2.2.2.2.2.2.2.2.2 ∧ m = [.obj pb0 [pt pb0_d 0, .int .i64 a0_from, .int .i64 a0_size, .int .i64 r.2.2.2.2.2.1, .int .i64 r.2.2.2.2.2.2.1, .int .i64 r.2.2.2.2.2.2.2.1, .bool r.2.2.2.2.2.2.2.2.1] 68, .obj pb0_d [y1, y2, y3, y4, .int .i64 r.2.2.2.2.1] 48, .sl y1 9 1 (r.1.map SR), .sl y2 9 1 (r.2.1.map SR), .sl y3 3 1 (r.2.2.1.map I), .sl y4 9 1 (r.2.2.2.1.map SR)] := by
  rw [m14_quirref_Log_Reset] at h
  refine body (n := 64) Tryd.func14 rfl rfl rfl hc0 ?_
  refine W.seq (W.region (L.y rfl (Y.assign rfl) ?_))
  refine L.nil (E.thenN (W.seqJ (fun gs D => gs = [(0, pt pb0 0), (1, st a1)] ∧ D = Cls w F [.obj pb0 [pt pb0_d 0, .int .i64 a0_from, .int .i64 a0_size, .int .i64 a0_epoch, .int .i64 a0_at, .int .i64 a0_seq, .bool a0_fell] 68, .obj pb0_d [p0_d_Seen, p0_d_Safe, p0_d_late, p0_d_texts, .int .i64 a0_d_left] 48, .sl p0_d_Seen 9 1 (a0_d_Seen.map SR), .sl p0_d_Safe 9 1 (a0_d_Safe.map SR), .sl p0_d_late 3 1 (a0_d_late.map I), .sl p0_d_texts 9 1 (a0_d_texts.map SR)] ∧ m14_quirref_Log_Reset_K1 a1 a0_d_Seen a0_d_Safe a0_d_late a0_d_texts a0_d_left a0_epoch a0_at a0_seq a0_fell a0_from a0_size = some r) ?_ ?_))
  ·
   refine W.seq (W.region (L.y rfl (Y.move rfl) ?_))
   refine L.y rfl (Y.nilCheck rfl) ?_
   refine L.y rfl (Y.fieldP fd68_6 rfl) ?_
   refine L.iteB h rfl (Y.loadP (i := 0) ag4 rfl rfl rfl) (fun c105 h => ?_) (fun c105 h => ?_)
   ·
    refine L.nil (E.thenN (W.condT rfl ?_))
    refine W.seq (W.region (L.y rfl (Y.assign rfl) ?_))
    refine L.nil (E.thenN (W.ret (E.KSR (E.ret1 rfl rfl (fun w1 hw => ?_)))))
    obtain rfl := Option.some.inj h
    exact ⟨_, _, rfl, ⟨_, _, _, _, rfl, rfl⟩, hw⟩
   ·
    refine L.nil (E.thenN (W.condF rfl ?_))
    exact W.skip (E.joinJ ⟨rfl, rfl, h⟩ ⟨rfl, rfl, trivial⟩ (fun _ hw => hw))
  ·
   rintro _ _ ⟨rfl, rfl, h⟩
   rw [m14_quirref_Log_Reset_K1] at h
   refine W.seqJ (fun gs D => gs = [(0, pt pb0 0), (1, st a1)] ∧ D = Cls w F [.obj pb0 [pt pb0_d 0, .int .i64 a0_from, .int .i64 a0_size, .int .i64 a0_epoch, .int .i64 a0_at, .int .i64 a0_seq, .bool a0_fell] 68, .obj pb0_d [p0_d_Seen, p0_d_Safe, p0_d_late, p0_d_texts, .int .i64 a0_d_left] 48, .sl p0_d_Seen 9 1 (a0_d_Seen.map SR), .sl p0_d_Safe 9 1 (a0_d_Safe.map SR), .sl p0_d_late 3 1 (a0_d_late.map I), .sl p0_d_texts 9 1 (a0_d_texts.map SR)] ∧ m14_quirref_Log_Reset_K2 a0_epoch a1 a0_d_Seen a0_d_Safe a0_d_late a0_d_texts a0_d_left a0_at a0_seq a0_fell a0_from a0_size = some r) ?_ ?_
   ·
    refine W.seq (W.region (L.y rfl (Y.move rfl) ?_))
    refine L.y rfl (Y.lenS Tryd.underlying9 rfl) ?_
    refine L.ite h rfl (Y.gtr rfl rfl) (fun c104 h => ?_) (fun c104 h => ?_)
    ·
     refine L.nil (E.thenN (W.condT rfl ?_))
     refine W.seq (W.region (L.y rfl (Y.assign rfl) ?_))
     refine L.nil (E.thenN (W.ret (E.KSR (E.ret1 rfl rfl (fun w1 hw => ?_)))))
     obtain rfl := Option.some.inj h
     exact ⟨_, _, rfl, ⟨_, _, _, _, rfl, rfl⟩, hw⟩
    ·
     refine L.nil (E.thenN (W.condF rfl ?_))
     exact W.skip (E.joinJ ⟨rfl, rfl, h⟩ ⟨rfl, rfl, trivial⟩ (fun _ hw => hw))
   ·
    rintro _ _ ⟨rfl, rfl, h⟩
    rw [m14_quirref_Log_Reset_K2] at h
    refine W.seqJ (fun gs D => gs = [(0, pt pb0 0), (1, st a1)] ∧ D = Cls w F [.obj pb0 [pt pb0_d 0, .int .i64 a0_from, .int .i64 a0_size, .int .i64 a0_epoch, .int .i64 a0_at, .int .i64 a0_seq, .bool a0_fell] 68, .obj pb0_d [p0_d_Seen, p0_d_Safe, p0_d_late, p0_d_texts, .int .i64 a0_d_left] 48, .sl p0_d_Seen 9 1 (a0_d_Seen.map SR), .sl p0_d_Safe 9 1 (a0_d_Safe.map SR), .sl p0_d_late 3 1 (a0_d_late.map I), .sl p0_d_texts 9 1 (a0_d_texts.map SR)] ∧ m14_quirref_Log_Reset_K3 a0_d_Seen a0_d_Safe a0_d_late a0_d_texts a0_d_left a0_from a0_size a0_epoch a0_at a0_seq a0_fell a1 = some r) ?_ ?_
    ·
     refine W.seq (W.region (L.y rfl (Y.move rfl) ?_))
     refine L.y rfl (Y.nilCheck rfl) ?_
     refine L.y rfl (Y.fieldP fd68_3 rfl) ?_
     refine L.y rfl (Y.loadP (i := 0) ag3 rfl rfl rfl) ?_
     refine L.m (V := fun x99 => .int .i64 x99) h rfl (Y.addM rfl rfl) (fun x99 ex99 h => ?_)
     refine L.y rfl (Y.move rfl) ?_
     obtain ⟨l100, e102, h⟩ := bind1S h
     refine L.does rfl en35 rfl (fun w' hw => w35_quirref_recordSectors x99 0 a1 w' _ e102) ?_
     rintro v101 _ ⟨_, rfl, rfl⟩
     refine L.y rfl (Y.lenM (g := SR) (l := l100) Tryd.underlying30 rfl (fun w hw => As.at_ (hw.get (i := 0) rfl))) ?_
     refine L.ite h rfl (Y.neq rfl rfl) (fun c103 h => ?_) (fun c103 h => ?_)
     ·
      refine L.nil (E.thenN (W.condT rfl ?_))
      refine W.seq (W.region (L.y rfl (Y.assign rfl) ?_))
      refine L.nil (E.thenN (W.ret (E.KSR (E.ret1 rfl rfl (fun w1 hw => ?_)))))
      obtain rfl := Option.some.inj h
      exact ⟨_, _, rfl, ⟨_, _, _, _, rfl, rfl⟩, hw.sel [1, 2, 3, 4, 5, 6] (by decide) rfl⟩
     ·
      refine L.nil (E.thenN (W.condF rfl ?_))
      exact W.skip (E.joinJ ⟨rfl, rfl, h⟩ ⟨rfl, rfl, trivial⟩ (fun _ hw => hw.sel [1, 2, 3, 4, 5, 6] (by decide) rfl))
    ·
     rintro _ _ ⟨rfl, rfl, h⟩
     rw [m14_quirref_Log_Reset_K3] at h
     refine W.seqJ (fun gs D => ∃ (gx1 : Int) (gb2 : Bool) (gv3 : Value) (gl4 : (List (List UInt8))) (gv5 : Value) (gl6 : (List (List UInt8))) (gv7 : Value) (gl8 : (List Int)) (gv9 : Value) (gl10 : (List (List UInt8))) (gx11 : Int), gs = [(0, pt pb0 0), (1, st a1)] ∧ D = Cls w F [.obj pb0 [pt pb0_d 0, .int .i64 a0_from, .int .i64 a0_size, .int .i64 gx1, .int .i64 a0_at, .int .i64 a0_seq, .bool gb2] 68, .obj pb0_d [gv3, gv5, gv7, gv9, .int .i64 gx11] 48, .sl gv3 9 1 (gl4.map SR), .sl gv5 9 1 (gl6.map SR), .sl gv7 3 1 (gl8.map I), .sl gv9 9 1 (gl10.map SR)] ∧ m14_quirref_Log_Reset_K4 a0_from a1 a0_at a0_seq gx1 gb2 gl4 gl6 gl8 gl10 gx11 = some r) ?_ ?_
     ·
      refine W.seq (W.region (L.y rfl (Y.move rfl) ?_))
      obtain ⟨l85, l86, l87, l88, x89, x90, b91, x92, e93, h⟩ := bind8S h
      refine L.doesP (A := [.obj pb0 [pt pb0_d 0, .int .i64 a0_from, .int .i64 a0_size, .int .i64 a0_epoch, .int .i64 a0_at, .int .i64 a0_seq, .bool a0_fell] 68, .obj pb0_d [p0_d_Seen, p0_d_Safe, p0_d_late, p0_d_texts, .int .i64 a0_d_left] 48, .sl p0_d_Seen 9 1 (a0_d_Seen.map SR), .sl p0_d_Safe 9 1 (a0_d_Safe.map SR), .sl p0_d_late 3 1 (a0_d_late.map I), .sl p0_d_texts 9 1 (a0_d_texts.map SR)]) (M := []) rfl en31 rfl (fun w' hw => w31_quirref_Log_raise a0_d_Seen a0_d_Safe a0_d_late a0_d_texts a0_d_left a0_from a0_size a0_epoch a0_at a0_seq a0_fell pb0 pb0_d p0_d_Seen p0_d_Safe p0_d_late p0_d_texts w' _ e93 _ hw.lend) ?_
      rintro _ _ ⟨v94, v95, v96, v97, rfl, rfl⟩
      refine L.to (D := Cls w F [.obj pb0 [pt pb0_d 0, .int .i64 a0_from, .int .i64 a0_size, .int .i64 x90, .int .i64 a0_at, .int .i64 a0_seq, .bool b91] 68, .obj pb0_d [v94, v95, v96, v97, .int .i64 x89] 48, .sl v94 9 1 (l85.map SR), .sl v95 9 1 (l86.map SR), .sl v96 3 1 (l87.map I), .sl v97 9 1 (l88.map SR)]) (fun _ hw => hw) ?_
      refine L.y rfl (Y.assign rfl) ?_
      refine L.nil (E.thenN (W.seq (W.region (L.y rfl (Y.move rfl) ?_))))
      refine L.ite h rfl (Y.neq rfl rfl) (fun c98 h => ?_) (fun c98 h => ?_)
      ·
       refine L.nil (E.thenN (W.condT rfl ?_))
       refine W.seq (W.region (L.y rfl (Y.move rfl) ?_))
       refine L.y rfl (Y.assign rfl) ?_
       refine L.nil (E.thenN (W.ret (E.KSR (E.ret1 rfl rfl (fun w1 hw => ?_)))))
       obtain rfl := Option.some.inj h
       exact ⟨_, _, rfl, ⟨_, _, _, _, rfl, rfl⟩, hw⟩
      ·
       refine L.nil (E.thenN (W.condF rfl ?_))
       exact W.skip (E.joinJ ⟨x90, b91, v94, l85, v95, l86, v96, l87, v97, l88, x89, rfl, rfl, h⟩ ⟨rfl, rfl, trivial⟩ (fun _ hw => hw))
     ·
      rintro _ _ ⟨gx1, gb2, gv3, gl4, gv5, gl6, gv7, gl8, gv9, gl10, gx11, rfl, rfl, h⟩
      rw [m14_quirref_Log_Reset_K4] at h
      refine W.seq (W.drawn2 (k := 19) (stC [[17]] [Cls w F [.obj pb0 [pt pb0_d 0, .int .i64 a0_from, .int .i64 a0_size, .int .i64 gx1, .int .i64 a0_at, .int .i64 a0_seq, .bool gb2] 68, .obj pb0_d [gv3, gv5, gv7, gv9, .int .i64 gx11] 48, .sl gv3 9 1 (gl4.map SR), .sl gv5 9 1 (gl6.map SR), .sl gv7 3 1 (gl8.map I), .sl gv9 9 1 (gl10.map SR)]] (Cls w F [.obj pb0 [pt pb0_d 0, .int .i64 a0_from, .int .i64 a0_size, .int .i64 gx1, .int .i64 a0_at, .int .i64 a0_seq, .bool gb2] 68, .sl gv5 9 1 (gl6.map SR)])) rfl mixed (fun _ hw => hw.drew) (Sc.now (by kernel_rfl) (fun _ hw => hw)) ?_)
      refine V2.y (i := 0) (Nx2.of (Z := Cls w F [.obj pb0 [pt pb0_d 0, .int .i64 a0_from, .int .i64 a0_size, .int .i64 gx1, .int .i64 a0_at, .int .i64 a0_seq, .bool gb2] 68, .sl gv5 9 1 (gl6.map SR)]) [] (by kernel_rfl) rfl (Zc.on (fun _ hw => hw.sel [0, 3] (by decide) rfl) (Zc.fin (fun _ hw => hw)))) rfl rfl rfl (Y.move rfl) ?_
      refine V2.nilc (i := 1) (Nx2.of (Z := Cls w F [.obj pb0 [pt pb0_d 0, .int .i64 a0_from, .int .i64 a0_size, .int .i64 gx1, .int .i64 a0_at, .int .i64 a0_seq, .bool gb2] 68, .sl gv5 9 1 (gl6.map SR)]) [] (by kernel_rfl) rfl (Zc.on (fun _ hw => hw.sel [0, 3] (by decide) rfl) (Zc.fin (fun _ hw => hw)))) rfl rfl rfl ?_
      refine V2.y (i := 2) (Nx2.of (Z := Cls w F [.obj pb0 [pt pb0_d 0, .int .i64 a0_from, .int .i64 a0_size, .int .i64 gx1, .int .i64 a0_at, .int .i64 a0_seq, .bool gb2] 68, .sl gv5 9 1 (gl6.map SR)]) [] (by kernel_rfl) rfl (Zc.on (fun _ hw => hw.sel [0, 3] (by decide) rfl) (Zc.fin (fun _ hw => hw)))) rfl rfl rfl (Y.fieldP fd68_0 rfl) ?_
      refine V2.y (i := 3) (Nx2.of (Z := Cls w F [.obj pb0 [pt pb0_d 0, .int .i64 a0_from, .int .i64 a0_size, .int .i64 gx1, .int .i64 a0_at, .int .i64 a0_seq, .bool gb2] 68, .sl gv5 9 1 (gl6.map SR)]) [] (by kernel_rfl) rfl (Zc.on (fun _ hw => hw.sel [0, 3] (by decide) rfl) (Zc.fin (fun _ hw => hw)))) rfl rfl rfl (Y.loadP (i := 0) ag27 rfl rfl rfl) ?_
      refine V2.y (i := 4) (Nx2.of (Z := Cls w F [.obj pb0 [pt pb0_d 0, .int .i64 a0_from, .int .i64 a0_size, .int .i64 gx1, .int .i64 a0_at, .int .i64 a0_seq, .bool gb2] 68, .sl gv5 9 1 (gl6.map SR)]) [] (by kernel_rfl) rfl (Zc.on (fun _ hw => hw.sel [0, 3] (by decide) rfl) (Zc.fin (fun _ hw => hw)))) rfl rfl rfl (Y.move rfl) ?_
      refine V2.nilc (i := 5) (Nx2.of (Z := Cls w F [.obj pb0 [pt pb0_d 0, .int .i64 a0_from, .int .i64 a0_size, .int .i64 gx1, .int .i64 a0_at, .int .i64 a0_seq, .bool gb2] 68, .sl gv5 9 1 (gl6.map SR)]) [] (by kernel_rfl) rfl (Zc.on (fun _ hw => hw.sel [0, 3] (by decide) rfl) (Zc.fin (fun _ hw => hw)))) rfl rfl rfl ?_
      refine V2.y (i := 6) (Nx2.of (Z := Cls w F [.obj pb0 [pt pb0_d 0, .int .i64 a0_from, .int .i64 a0_size, .int .i64 gx1, .int .i64 a0_at, .int .i64 a0_seq, .bool gb2] 68, .sl gv5 9 1 (gl6.map SR)]) [] (by kernel_rfl) rfl (Zc.on (fun _ hw => hw.sel [0, 3] (by decide) rfl) (Zc.fin (fun _ hw => hw)))) rfl rfl rfl (Y.fieldP fd68_1 rfl) ?_
      refine V2.y (i := 7) (Nx2.of (Z := Cls w F [.obj pb0 [pt pb0_d 0, .int .i64 a0_from, .int .i64 a0_size, .int .i64 gx1, .int .i64 a0_at, .int .i64 a0_seq, .bool gb2] 68, .sl gv5 9 1 (gl6.map SR)]) [] (by kernel_rfl) rfl (Zc.on (fun _ hw => hw.sel [0, 3] (by decide) rfl) (Zc.fin (fun _ hw => hw)))) rfl rfl rfl (Y.loadP (i := 0) ag3 rfl rfl rfl) ?_
      refine V2.m (i := 8) (V' := fun x57 => .int .i64 x57) h (Nx2.of (Z := Cls w F [.obj pb0 [pt pb0_d 0, .int .i64 a0_from, .int .i64 a0_size, .int .i64 gx1, .int .i64 a0_at, .int .i64 a0_seq, .bool gb2] 68, .sl gv5 9 1 (gl6.map SR)]) [] (by kernel_rfl) rfl (Zc.on (fun _ hw => hw.sel [0, 3] (by decide) rfl) (Zc.fin (fun _ hw => hw)))) rfl rfl rfl (Y.addM rfl rfl) (fun x57 ex57 h => ?_)
      refine V2.y (i := 9) (Nx2.of (Z := Cls w F [.obj pb0 [pt pb0_d 0, .int .i64 a0_from, .int .i64 a0_size, .int .i64 gx1, .int .i64 a0_at, .int .i64 a0_seq, .bool gb2] 68, .sl gv5 9 1 (gl6.map SR)]) [] (by kernel_rfl) rfl (Zc.on (fun _ hw => hw.sel [0, 3] (by decide) rfl) (Zc.fin (fun _ hw => hw)))) rfl rfl rfl (Y.move rfl) ?_
      refine V2.nilc (i := 10) (Nx2.of (Z := Cls w F [.obj pb0 [pt pb0_d 0, .int .i64 a0_from, .int .i64 a0_size, .int .i64 gx1, .int .i64 a0_at, .int .i64 a0_seq, .bool gb2] 68, .sl gv5 9 1 (gl6.map SR)]) [] (by kernel_rfl) rfl (Zc.on (fun _ hw => hw.sel [0, 3] (by decide) rfl) (Zc.fin (fun _ hw => hw)))) rfl rfl rfl ?_
      refine V2.y (i := 11) (Nx2.of (Z := Cls w F [.obj pb0 [pt pb0_d 0, .int .i64 a0_from, .int .i64 a0_size, .int .i64 gx1, .int .i64 a0_at, .int .i64 a0_seq, .bool gb2] 68, .sl gv5 9 1 (gl6.map SR)]) [] (by kernel_rfl) rfl (Zc.on (fun _ hw => hw.sel [0, 3] (by decide) rfl) (Zc.fin (fun _ hw => hw)))) rfl rfl rfl (Y.fieldP fd68_3 rfl) ?_
      refine V2.y (i := 12) (Nx2.of (Z := Cls w F [.obj pb0 [pt pb0_d 0, .int .i64 a0_from, .int .i64 a0_size, .int .i64 gx1, .int .i64 a0_at, .int .i64 a0_seq, .bool gb2] 68, .sl gv5 9 1 (gl6.map SR)]) [] (by kernel_rfl) rfl (Zc.on (fun _ hw => hw.sel [0, 3] (by decide) rfl) (Zc.fin (fun _ hw => hw)))) rfl rfl rfl (Y.loadP (i := 0) ag3 rfl rfl rfl) ?_
      refine V2.y (i := 13) (Nx2.of (Z := Cls w F [.obj pb0 [pt pb0_d 0, .int .i64 a0_from, .int .i64 a0_size, .int .i64 gx1, .int .i64 a0_at, .int .i64 a0_seq, .bool gb2] 68, .sl gv5 9 1 (gl6.map SR)]) [] (by kernel_rfl) rfl (Zc.on (fun _ hw => hw.sel [0, 3] (by decide) rfl) (Zc.fin (fun _ hw => hw)))) rfl rfl rfl (Y.move rfl) ?_
      refine V2.eff (i := 14) (by kernel_rfl) rfl ?_
      obtain ⟨l58, e60, h⟩ := bind1S h
      refine L.does rfl en35 rfl (fun w' hw => w35_quirref_recordSectors gx1 0 a1 w' _ e60) ?_
      rintro v59 _ ⟨_, rfl, rfl⟩
      refine L.nil (E.toV2 (stC [[17]] [Cls w F [.sl v59 9 1 (l58.map SR), .obj pb0 [pt pb0_d 0, .int .i64 a0_from, .int .i64 a0_size, .int .i64 gx1, .int .i64 a0_at, .int .i64 a0_seq, .bool gb2] 68, .obj pb0_d [gv3, gv5, gv7, gv9, .int .i64 gx11] 48, .sl gv3 9 1 (gl4.map SR), .sl gv5 9 1 (gl6.map SR), .sl gv7 3 1 (gl8.map I), .sl gv9 9 1 (gl10.map SR)]] (Cls w F [.sl v59 9 1 (l58.map SR), .obj pb0 [pt pb0_d 0, .int .i64 a0_from, .int .i64 a0_size, .int .i64 gx1, .int .i64 a0_at, .int .i64 a0_seq, .bool gb2] 68, .sl gv5 9 1 (gl6.map SR)])) 14 (by kernel_rfl) (Sc.stay (fun _ hw => hw.sel [1, 2, 3, 4, 5, 6] (by decide) rfl) (Sc.stayD (fun _ hw => hw.sel [1, 2] (by decide) rfl))) (Sc.now (by kernel_rfl) (fun _ hw => hw)) ?_)
      refine V2.m (i := 15) (V' := fun _ => el v59 ((0 : Int).toNat * 1)) h (Nx2.of (Z := Cls w F [.sl v59 9 1 (l58.map SR), .obj pb0 [pt pb0_d 0, .int .i64 a0_from, .int .i64 a0_size, .int .i64 gx1, .int .i64 a0_at, .int .i64 a0_seq, .bool gb2] 68, .sl gv5 9 1 (gl6.map SR)]) [] (by kernel_rfl) rfl (Zc.on (fun _ hw => hw.sel [0, 1, 4] (by decide) rfl) (Zc.fin (fun _ hw => hw)))) rfl rfl rfl (Y.indexM (g := SR) (l := l58) Tryd.underlying30 sz9 rfl rfl (fun w hw => As.at_ (hw.get (i := 0) rfl))) (fun x61 ex61 h => ?_)
      refine V2.y (i := 16) (Nx2.of (Z := Cls w F [.sl v59 9 1 (l58.map SR), .obj pb0 [pt pb0_d 0, .int .i64 a0_from, .int .i64 a0_size, .int .i64 gx1, .int .i64 a0_at, .int .i64 a0_seq, .bool gb2] 68, .sl gv5 9 1 (gl6.map SR)]) [] (by kernel_rfl) rfl (Zc.on (fun _ hw => hw.sel [0, 1, 4] (by decide) rfl) (Zc.fin (fun _ hw => hw)))) rfl rfl rfl (Y.loadE1 (u := st x61) ag9 rfl (fun w hw => As.at_ (hw.get (i := 0) rfl)) (idx_map ex61)) ?_
      refine V2.eff (i := 17) (by kernel_rfl) rfl ?_
      refine L.to (D := Cls w F [.obj pb0_d [gv3, gv5, gv7, gv9, .int .i64 gx11] 48, .sl gv3 9 1 (gl4.map SR), .sl gv5 9 1 (gl6.map SR), .sl gv7 3 1 (gl8.map I), .sl gv9 9 1 (gl10.map SR), .sl v59 9 1 (l58.map SR), .obj pb0 [pt pb0_d 0, .int .i64 a0_from, .int .i64 a0_size, .int .i64 gx1, .int .i64 a0_at, .int .i64 a0_seq, .bool gb2] 68]) (fun _ hw => hw.sel [2, 3, 4, 5, 6, 0, 1] (by decide) rfl) ?_
      obtain ⟨l62, l63, l64, x65, x66, e67, h⟩ := bind5S h
      refine L.doesP (A := [.obj pb0_d [gv3, gv5, gv7, gv9, .int .i64 gx11] 48, .sl gv3 9 1 (gl4.map SR), .sl gv5 9 1 (gl6.map SR), .sl gv7 3 1 (gl8.map I), .sl gv9 9 1 (gl10.map SR)]) (M := [.sl v59 9 1 (l58.map SR), .obj pb0 [pt pb0_d 0, .int .i64 a0_from, .int .i64 a0_size, .int .i64 gx1, .int .i64 a0_at, .int .i64 a0_seq, .bool gb2] 68]) rfl en36 rfl (fun w' hw => w36_quirref_Disk_Write gl4 gl6 gl8 gl10 gx11 x57 x61 pb0_d gv3 gv5 gv7 gv9 w' _ e67 _ hw.lend) ?_
      rintro _ _ ⟨v68, v69, v70, rfl, rfl⟩
      refine L.to (D := Cls w F [.obj pb0_d [v68, gv5, v69, v70, .int .i64 x65] 48, .sl v68 9 1 (l62.map SR), .sl gv5 9 1 (gl6.map SR), .sl v69 3 1 (l63.map I), .sl v70 9 1 (l64.map SR), .sl v59 9 1 (l58.map SR), .obj pb0 [pt pb0_d 0, .int .i64 a0_from, .int .i64 a0_size, .int .i64 gx1, .int .i64 a0_at, .int .i64 a0_seq, .bool gb2] 68]) (fun _ hw => hw) ?_
      refine L.nil (E.toV2 (stC [] [] (Cls w F [.sl v68 9 1 (l62.map SR), .sl gv5 9 1 (gl6.map SR), .sl v69 3 1 (l63.map I), .sl v70 9 1 (l64.map SR), .sl v59 9 1 (l58.map SR), .obj pb0 [pt pb0_d 0, .int .i64 a0_from, .int .i64 a0_size, .int .i64 gx1, .int .i64 a0_at, .int .i64 a0_seq, .bool gb2] 68])) 17 (by kernel_rfl) (Sc.past rfl (Sc.stayD (fun _ hw => hw.sel [4, 5, 1] (by decide) rfl))) (Sc.atD (fun _ hw => hw.sel [1, 2, 3, 4, 5, 6] (by decide) rfl)) ?_)
      refine V2.y (i := 18) (Nx2.of (Z := Cls w F [.sl v68 9 1 (l62.map SR), .sl gv5 9 1 (gl6.map SR), .sl v69 3 1 (l63.map I), .sl v70 9 1 (l64.map SR), .sl v59 9 1 (l58.map SR), .obj pb0 [pt pb0_d 0, .int .i64 a0_from, .int .i64 a0_size, .int .i64 gx1, .int .i64 a0_at, .int .i64 a0_seq, .bool gb2] 68]) [] (by kernel_rfl) rfl (Zc.fin (fun _ hw => hw))) rfl rfl rfl (Y.assign rfl) ?_
      refine V2.done (by kernel_rfl) ?_
      refine E.thenN (W.seqJ (fun gs D => ∃ (gx12 : Int) (gv13 : Value) (gl14 : (List (List UInt8))) (gv15 : Value) (gl16 : (List (List UInt8))) (gv17 : Value) (gl18 : (List Int)) (gv19 : Value) (gl20 : (List (List UInt8))) (gx21 : Int), gs = [(0, pt pb0 0), (6, .int .i64 gx12)] ∧ D = Cls w F [.obj pb0_d [gv13, gv15, gv17, gv19, .int .i64 gx21] 48, .obj pb0 [pt pb0_d 0, .int .i64 a0_from, .int .i64 a0_size, .int .i64 gx1, .int .i64 a0_at, .int .i64 a0_seq, .bool gb2] 68, .sl gv13 9 1 (gl14.map SR), .sl gv15 9 1 (gl16.map SR), .sl gv17 3 1 (gl18.map I), .sl gv19 9 1 (gl20.map SR)] ∧ m14_quirref_Log_Reset_K5 gx1 gb2 a0_at a0_seq gx12 gl14 gl16 gl18 gl20 gx21 = some r) ?_ ?_)
      ·
       refine W.seq (W.region (L.y rfl (Y.move rfl) ?_))
       refine L.ite h rfl (Y.eql rfl rfl) (fun c73 h => ?_) (fun c73 h => ?_)
       ·
        refine L.nil (E.thenN (W.condT rfl ?_))
        refine W.region (L.y rfl (Y.move rfl) ?_)
        refine L.y rfl (Y.nilCheck rfl) ?_
        refine L.y rfl (Y.fieldP fd68_0 rfl) ?_
        refine L.y rfl (Y.loadP (i := 6) ag27 rfl rfl rfl) ?_
        obtain ⟨l74, l75, l76, l77, x78, x79, e80, h⟩ := bind6S h
        refine L.doesP (A := [.obj pb0_d [v68, gv5, v69, v70, .int .i64 x65] 48, .sl v68 9 1 (l62.map SR), .sl gv5 9 1 (gl6.map SR), .sl v69 3 1 (l63.map I), .sl v70 9 1 (l64.map SR)]) (M := [.sl v59 9 1 (l58.map SR), .obj pb0 [pt pb0_d 0, .int .i64 a0_from, .int .i64 a0_size, .int .i64 gx1, .int .i64 a0_at, .int .i64 a0_seq, .bool gb2] 68]) rfl en39 rfl (fun w' hw => w39_quirref_Disk_Flush l62 gl6 l63 l64 x65 pb0_d v68 gv5 v69 v70 w' _ e80 _ hw.lend) ?_
        rintro _ _ ⟨v81, v82, v83, v84, rfl, rfl⟩
        refine L.to (D := Cls w F [.obj pb0_d [v81, v82, v83, v84, .int .i64 x78] 48, .sl v81 9 1 (l74.map SR), .sl v82 9 1 (l75.map SR), .sl v83 3 1 (l76.map I), .sl v84 9 1 (l77.map SR), .sl v59 9 1 (l58.map SR), .obj pb0 [pt pb0_d 0, .int .i64 a0_from, .int .i64 a0_size, .int .i64 gx1, .int .i64 a0_at, .int .i64 a0_seq, .bool gb2] 68]) (fun _ hw => hw) ?_
        refine L.y rfl (Y.assign rfl) ?_
        exact L.nil (E.joinJ ⟨x79, v81, l74, v82, l75, v83, l76, v84, l77, x78, rfl, rfl, h⟩ ⟨rfl, rfl, trivial⟩ (fun _ hw => hw.sel [0, 6, 1, 2, 3, 4] (by decide) rfl))
       ·
        refine L.nil (E.thenN (W.condF rfl ?_))
        exact W.skip (E.joinJ ⟨x66, v68, l62, gv5, gl6, v69, l63, v70, l64, x65, rfl, rfl, h⟩ ⟨rfl, rfl, trivial⟩ (fun _ hw => hw.sel [0, 6, 1, 2, 3, 4] (by decide) rfl))
      ·
       rintro _ _ ⟨gx12, gv13, gl14, gv15, gl16, gv17, gl18, gv19, gl20, gx21, rfl, rfl, h⟩
       rw [m14_quirref_Log_Reset_K5] at h
       refine W.seqJ (fun gs D => ∃ (gx22 : Int) (gx23 : Int), gs = [(0, pt pb0 0), (6, .int .i64 gx12)] ∧ D = Cls w F [.obj pb0_d [gv13, gv15, gv17, gv19, .int .i64 gx21] 48, .obj pb0 [pt pb0_d 0, .int .i64 a0_from, .int .i64 a0_size, .int .i64 gx1, .int .i64 gx22, .int .i64 gx23, .bool gb2] 68, .sl gv13 9 1 (gl14.map SR), .sl gv15 9 1 (gl16.map SR), .sl gv17 3 1 (gl18.map I), .sl gv19 9 1 (gl20.map SR)] ∧ m14_quirref_Log_Reset_K6 gx12 gl14 gl16 gl18 gl20 gx21 gx1 gb2 gx22 gx23 = some r) ?_ ?_
       ·
        refine W.seq (W.region (L.y rfl (Y.move rfl) ?_))
        refine L.ite h rfl (Y.eql rfl rfl) (fun c72 h => ?_) (fun c72 h => ?_)
        ·
         refine L.nil (E.thenN (W.condT rfl ?_))
         refine W.region (L.y rfl (Y.move rfl) ?_)
         refine L.y rfl (Y.move rfl) ?_
         refine L.y rfl (Y.nilCheck rfl) ?_
         refine L.y rfl (Y.fieldP fd68_4 rfl) ?_
         refine L.store (i := 1) (vs := [.int .i64 2]) sz3 rfl rfl rfl rfl (by simp [Value.oneCell', Value.cells, st, pt, el]) rfl (Nat.le_of_ble_eq_true rfl) ?_
         refine L.y rfl (Y.nilCheck rfl) ?_
         refine L.y rfl (Y.fieldP fd68_5 rfl) ?_
         refine L.store (i := 1) (vs := [.int .i64 1]) sz3 rfl rfl rfl rfl (by simp [Value.oneCell', Value.cells, st, pt, el]) rfl (Nat.le_of_ble_eq_true rfl) ?_
         exact L.nil (E.joinJ ⟨2, 1, rfl, rfl, h⟩ ⟨rfl, rfl, trivial⟩ (fun _ hw => hw))
        ·
         refine L.nil (E.thenN (W.condF rfl ?_))
         exact W.skip (E.joinJ ⟨a0_at, a0_seq, rfl, rfl, h⟩ ⟨rfl, rfl, trivial⟩ (fun _ hw => hw))
       ·
        rintro _ _ ⟨gx22, gx23, rfl, rfl, h⟩
        rw [m14_quirref_Log_Reset_K6] at h
        refine W.seq (W.region (L.y rfl (Y.move rfl) ?_))
        refine L.y rfl (Y.move rfl) ?_
        refine L.callJ (fun v D => ∃ (gb24 : Bool), v = .int .i64 gx12 ∧ D = Cls w F [.obj pb0_d [gv13, gv15, gv17, gv19, .int .i64 gx21] 48, .obj pb0 [pt pb0_d 0, .int .i64 a0_from, .int .i64 a0_size, .int .i64 gx1, .int .i64 gx22, .int .i64 gx23, .bool gb24] 68, .sl gv13 9 1 (gl14.map SR), .sl gv15 9 1 (gl16.map SR), .sl gv17 3 1 (gl18.map I), .sl gv19 9 1 (gl20.map SR)] ∧ m14_quirref_Log_Reset_K7 gl14 gl16 gl18 gl20 gx21 gx1 gx22 gx23 gx12 gb24 = some r) rfl en37 rfl Tryd.func37 rfl rfl rfl ?_ ?_
        ·
         refine W.seq (W.region (L.y rfl (Y.assign rfl) ?_))
         refine L.nil (E.thenN (W.seq (W.seq (W.region (L.y rfl (Y.move rfl) ?_)))))
         refine L.ite h rfl (Y.neq rfl rfl) (fun c71 h => ?_) (fun c71 h => ?_)
         ·
          refine L.nil (E.thenN (W.condT rfl ?_))
          refine W.region (L.y rfl (Y.move rfl) ?_)
          refine L.y rfl (Y.nilCheck rfl) ?_
          refine L.y rfl (Y.fieldP fd68_6 rfl) ?_
          refine L.store (i := 1) (vs := [.bool true]) sz4 rfl rfl rfl rfl (by simp [Value.oneCell', Value.cells, st, pt, el]) rfl (Nat.le_of_ble_eq_true rfl) ?_
          refine L.nil (E.thenN (W.seq (W.region (L.y rfl (Y.move rfl) ?_))))
          refine L.y rfl (Y.assign rfl) ?_
          refine L.nil (E.thenN (W.ret (E.ret1 rfl rfl (fun w1 hw => ?_))))
          exact ⟨_, _, rfl, ⟨true, rfl, rfl, h⟩, hw⟩
         ·
          refine L.nil (E.thenN (W.condF rfl ?_))
          refine W.skip (E.thenN (W.seq (W.region (L.y rfl (Y.move rfl) ?_))))
          refine L.y rfl (Y.assign rfl) ?_
          refine L.nil (E.thenN (W.ret (E.ret1 rfl rfl (fun w1 hw => ?_))))
          exact ⟨_, _, rfl, ⟨gb2, rfl, rfl, h⟩, hw⟩
        ·
         rintro _ _ ⟨gb24, rfl, rfl, h⟩
         rw [m14_quirref_Log_Reset_K7] at h
         refine L.y rfl (Y.assign rfl) ?_
         refine L.nil (E.thenN (W.ret (E.ret1 rfl rfl (fun w1 hw => ?_))))
         obtain rfl := Option.some.inj h
         exact ⟨_, _, rfl, ⟨_, _, _, _, rfl, rfl⟩, hw.sel [1, 0, 2, 3, 4, 5] (by decide) rfl⟩
set_option maxRecDepth 100000 in
set_option maxHeartbeats 8000000 in
theorem w15_sect_Disk_Crash (a0_safe : (List (List UInt8))) (a0_seen : (List (List UInt8))) (a0_late : (List Twrite)) (a0_left : Int) (a1 : (List Bool)) (pb0 : Nat) (p0_safe : Value) (p0_seen : Value) (p0_late : Value) (u1 : Value) (w : World) (r : ((List (List UInt8)) × (List (List UInt8)) × (List Twrite) × Int)) (h : m15_sect_Disk_Crash a0_safe a0_seen a0_late a0_left a1 = some r) (F : List Nat) (hA1 : StbF (fun w => At w u1 1 (a1.map B)) w F) (hc0 : Cls w F [.obj pb0 [p0_safe, p0_seen, p0_late, .int .i64 a0_left] 54, .sl p0_safe 9 1 (a0_safe.map SR), .sl p0_seen 9 1 (a0_seen.map SR), .sl p0_late 75 2 (a0_late.map Twrite.row)] w) : DoesF Tryd.prog 15 [pt pb0 0, u1] F w fun u m => ∃ y1 y2 y3, u = .tuple #[] ∧ m = [.obj pb0 [y1, y2, y3, .int .i64 r.2.2.2] 54, .sl y1 9 1 (r.1.map SR), .sl y2 9 1 (r.2.1.map SR), .sl y3 75 2 (r.2.2.1.map Twrite.row)] := by
  rw [m15_sect_Disk_Crash] at h
  refine body (n := 51) Tryd.func15 rfl rfl rfl hc0 ?_
  refine W.seqJ (fun gs D => ∃ (gl1 : (List (List UInt8))), gs = [(0, pt pb0 0)] ∧ D = Cls w F [.obj pb0 [p0_safe, p0_seen, p0_late, .int .i64 a0_left] 54, .sl p0_safe 9 1 (gl1.map SR), .sl p0_seen 9 1 (a0_seen.map SR), .sl p0_late 75 2 (a0_late.map Twrite.row)] ∧ m15_sect_Disk_Crash_K1 a0_seen gl1 = some r) ?_ ?_
  ·
   refine W.seq (W.region (L.y rfl (Y.move rfl) ?_))
   refine L.y rfl (Y.nilCheck rfl) ?_
   refine L.y rfl (Y.fieldP fd54_2 rfl) ?_
   refine L.y rfl (Y.loadP (i := 0) ag52 rfl rfl rfl) ?_
   refine L.y rfl (Y.lenM (g := Twrite.row) (l := a0_late) Tryd.underlying52 rfl (fun w hw => As.at_ (hw.get (i := 3) rfl))) ?_
   refine L.y rfl (Y.move rfl) ?_
   refine L.nil (E.thenN (W.block (W.loopJ (fun m gs D => ∃ (gx2 : Int) (gl3 : (List (List UInt8))), gs = [(0, pt pb0 0), (1, u1), (9, p0_late), (10, .int .i64 (a0_late.length : Int)), (11, .int .i64 gx2)] ∧ D = Cls w F [.obj pb0 [p0_safe, p0_seen, p0_late, .int .i64 a0_left] 54, .sl p0_late 75 2 (a0_late.map Twrite.row), .sl p0_safe 9 1 (gl3.map SR), .sl p0_seen 9 1 (a0_seen.map SR)] ∧ m15_sect_Disk_Crash_L1 a0_late a1 a0_seen m gx2 gl3 = some r) ⟨0, a0_safe, rfl, rfl, h⟩ ⟨rfl, rfl, rfl, rfl, rfl, trivial⟩ (fun _ hw => hw.sel [0, 3, 1, 2] (by decide) rfl) ?_)))
   rintro m _ _ ⟨gx2, gl3, rfl, rfl, h⟩
   rcases m with _ | m
   · rw [m15_sect_Disk_Crash_L1] at h; cases h
   rw [m15_sect_Disk_Crash_L1] at h
   generalize hg1 : m15_sect_Disk_Crash_L1 a0_late a1 a0_seen m = go1 at h
   rw [m15_sect_Disk_Crash_L1B] at h
   refine W.seq (W.region (L.ite h rfl (Y.lss rfl rfl) (fun c1 h => ?_) (fun c1 h => ?_)))
   ·
    refine L.nil (E.thenN (W.seq (W.condT rfl ?_)))
    refine W.skip (E.thenN (W.seq (W.block (W.seq (W.region (L.y rfl (Y.move rfl) ?_))))))
    refine L.m (V := fun _ => el p0_late (gx2.toNat * 2)) h rfl (Y.indexM (g := Twrite.row) (l := a0_late) Tryd.underlying52 sz75 rfl rfl (fun w hw => As.at_ (hw.get (i := 1) rfl))) (fun x2 ex2 h => ?_)
    refine L.y rfl (Y.loadEN (r := [.int .i64 x2.at_, st x2.text_]) ag75 sz75 rfl (fun w hw => As.at_ (hw.get (i := 1) rfl)) (idx_map ex2) rfl) ?_
    refine L.alloc rfl ze75 ?_
    intro b3
    refine L.y rfl (Y.assign rfl) ?_
    refine L.store (i := 0) (vs := [.int .i64 x2.at_, st x2.text_]) sz75 rfl rfl rfl rfl (by simp [Value.oneCell', Value.cells, st, pt, el]) rfl (Nat.le_of_ble_eq_true rfl) ?_
    refine L.nil (E.thenN (W.seq (W.region (L.y rfl (Y.move rfl) ?_))))
    refine L.y rfl (Y.move rfl) ?_
    refine L.y rfl (Y.lenM (g := B) (l := a1) Tryd.underlying37 rfl (fun w' hw => hA1.cls0 hw)) ?_
    refine L.ite h rfl (Y.lss rfl rfl) (fun c4 h => ?_) (fun c4 h => ?_)
    ·
     refine L.y rfl (Y.move rfl) ?_
     refine L.take rfl (L.y rfl (Y.move rfl) ?_)
     refine L.take rfl (L.y rfl (Y.move rfl) ?_)
     refine L.take rfl (L.m (V := fun _ => el u1 (gx2.toNat * 1)) h rfl (Y.indexM (g := B) (l := a1) Tryd.underlying37 sz4 rfl rfl (fun w' hw => hA1.cls0 hw)) (fun x5 ex5 h => ?_))
     refine L.take rfl (L.iteB h rfl (Y.loadE1 (u := .bool x5) ag4 rfl (fun w' hw => hA1.cls0 hw) (idx_map ex5)) (fun c6 h => ?_) (fun c6 h => ?_))
     ·
      refine L.y rfl (Y.pickT rfl rfl) ?_
      refine L.nil (E.thenN (W.condT rfl ?_))
      refine W.drawn2 (k := 10) (stC [[9]] [Cls w F [.obj b3 [.int .i64 x2.at_, st x2.text_] 75, .obj pb0 [p0_safe, p0_seen, p0_late, .int .i64 a0_left] 54, .sl p0_late 75 2 (a0_late.map Twrite.row), .sl p0_safe 9 1 (gl3.map SR), .sl p0_seen 9 1 (a0_seen.map SR)]] (Cls w F [.obj b3 [.int .i64 x2.at_, st x2.text_] 75, .obj pb0 [p0_safe, p0_seen, p0_late, .int .i64 a0_left] 54, .sl p0_late 75 2 (a0_late.map Twrite.row), .sl p0_seen 9 1 (a0_seen.map SR)])) rfl mixed (fun _ hw => hw.drew) (Sc.now (by kernel_rfl) (fun _ hw => hw)) ?_
      refine V2.y (i := 0) (Nx2.of (Z := Cls w F [.obj b3 [.int .i64 x2.at_, st x2.text_] 75, .obj pb0 [p0_safe, p0_seen, p0_late, .int .i64 a0_left] 54, .sl p0_late 75 2 (a0_late.map Twrite.row), .sl p0_seen 9 1 (a0_seen.map SR)]) [] (by kernel_rfl) rfl (Zc.on (fun _ hw => hw.sel [0, 1, 2, 4] (by decide) rfl) (Zc.fin (fun _ hw => hw)))) rfl rfl rfl (Y.move rfl) ?_
      refine V2.nilc (i := 1) (Nx2.of (Z := Cls w F [.obj b3 [.int .i64 x2.at_, st x2.text_] 75, .obj pb0 [p0_safe, p0_seen, p0_late, .int .i64 a0_left] 54, .sl p0_late 75 2 (a0_late.map Twrite.row), .sl p0_seen 9 1 (a0_seen.map SR)]) [] (by kernel_rfl) rfl (Zc.on (fun _ hw => hw.sel [0, 1, 2, 4] (by decide) rfl) (Zc.fin (fun _ hw => hw)))) rfl rfl rfl ?_
      refine V2.y (i := 2) (Nx2.of (Z := Cls w F [.obj b3 [.int .i64 x2.at_, st x2.text_] 75, .obj pb0 [p0_safe, p0_seen, p0_late, .int .i64 a0_left] 54, .sl p0_late 75 2 (a0_late.map Twrite.row), .sl p0_seen 9 1 (a0_seen.map SR)]) [] (by kernel_rfl) rfl (Zc.on (fun _ hw => hw.sel [0, 1, 2, 4] (by decide) rfl) (Zc.fin (fun _ hw => hw)))) rfl rfl rfl (Y.fieldP fd54_0 rfl) ?_
      refine V2.y (i := 3) (Nx2.of (Z := Cls w F [.obj b3 [.int .i64 x2.at_, st x2.text_] 75, .obj pb0 [p0_safe, p0_seen, p0_late, .int .i64 a0_left] 54, .sl p0_late 75 2 (a0_late.map Twrite.row), .sl p0_seen 9 1 (a0_seen.map SR)]) [] (by kernel_rfl) rfl (Zc.on (fun _ hw => hw.sel [0, 1, 2, 4] (by decide) rfl) (Zc.fin (fun _ hw => hw)))) rfl rfl rfl (Y.loadP (i := 1) ag30 rfl rfl rfl) ?_
      refine V2.y (i := 4) (Nx2.of (Z := Cls w F [.obj b3 [.int .i64 x2.at_, st x2.text_] 75, .obj pb0 [p0_safe, p0_seen, p0_late, .int .i64 a0_left] 54, .sl p0_late 75 2 (a0_late.map Twrite.row), .sl p0_seen 9 1 (a0_seen.map SR)]) [] (by kernel_rfl) rfl (Zc.on (fun _ hw => hw.sel [0, 1, 2, 4] (by decide) rfl) (Zc.fin (fun _ hw => hw)))) rfl rfl rfl (Y.fieldP fd75_0 rfl) ?_
      refine V2.y (i := 5) (Nx2.of (Z := Cls w F [.obj b3 [.int .i64 x2.at_, st x2.text_] 75, .obj pb0 [p0_safe, p0_seen, p0_late, .int .i64 a0_left] 54, .sl p0_late 75 2 (a0_late.map Twrite.row), .sl p0_seen 9 1 (a0_seen.map SR)]) [] (by kernel_rfl) rfl (Zc.on (fun _ hw => hw.sel [0, 1, 2, 4] (by decide) rfl) (Zc.fin (fun _ hw => hw)))) rfl rfl rfl (Y.loadP (i := 0) ag3 rfl rfl rfl) ?_
      refine V2.y (i := 6) (Nx2.of (Z := Cls w F [.obj b3 [.int .i64 x2.at_, st x2.text_] 75, .obj pb0 [p0_safe, p0_seen, p0_late, .int .i64 a0_left] 54, .sl p0_late 75 2 (a0_late.map Twrite.row), .sl p0_seen 9 1 (a0_seen.map SR)]) [] (by kernel_rfl) rfl (Zc.on (fun _ hw => hw.sel [0, 1, 2, 4] (by decide) rfl) (Zc.fin (fun _ hw => hw)))) rfl rfl rfl (Y.fieldP fd75_1 rfl) ?_
      refine V2.y (i := 7) (Nx2.of (Z := Cls w F [.obj b3 [.int .i64 x2.at_, st x2.text_] 75, .obj pb0 [p0_safe, p0_seen, p0_late, .int .i64 a0_left] 54, .sl p0_late 75 2 (a0_late.map Twrite.row), .sl p0_seen 9 1 (a0_seen.map SR)]) [] (by kernel_rfl) rfl (Zc.on (fun _ hw => hw.sel [0, 1, 2, 4] (by decide) rfl) (Zc.fin (fun _ hw => hw)))) rfl rfl rfl (Y.loadP (i := 0) ag9 rfl rfl rfl) ?_
      refine V2.m (i := 8) (V' := fun _ => el p0_safe (x2.at_.toNat * 1)) h (Nx2.of (Z := Cls w F [.obj b3 [.int .i64 x2.at_, st x2.text_] 75, .obj pb0 [p0_safe, p0_seen, p0_late, .int .i64 a0_left] 54, .sl p0_late 75 2 (a0_late.map Twrite.row), .sl p0_safe 9 1 (gl3.map SR), .sl p0_seen 9 1 (a0_seen.map SR)]) [9] (by kernel_rfl) rfl (Zc.at1 (fun _ hw => hw))) rfl rfl rfl (Y.indexM (g := SR) (l := gl3) Tryd.underlying30 sz9 rfl rfl (fun w hw => As.at_ (hw.get (i := 3) rfl))) (fun x9 ex9 h => ?_)
      refine V2.eff (i := 9) (by kernel_rfl) rfl ?_
      refine L.storeSlM (q := 3) (row := SR) (vs := [st x2.text_]) (j := 0) (u1 := x2.text_) h sz9 rfl rfl rfl rfl rfl (all1 rfl all0) rfl ex9 rfl rfl ?_
      intro l10 el10 h
      refine L.nil (E.toV2 (stC [] [] (Cls w F [.obj b3 [.int .i64 x2.at_, st x2.text_] 75, .obj pb0 [p0_safe, p0_seen, p0_late, .int .i64 a0_left] 54, .sl p0_late 75 2 (a0_late.map Twrite.row), .sl p0_seen 9 1 (a0_seen.map SR)])) 9 (by kernel_rfl) (Sc.past rfl (Sc.stayD (fun _ hw => hw))) (Sc.atD (fun _ hw => hw.sel [0, 1, 2, 4] (by decide) rfl)) ?_)
      refine V2.done (by kernel_rfl) ?_
      refine E.blockN (E.thenN (W.region (L.m (V := fun x11 => .int .i64 x11) h rfl (Y.addM rfl rfl) (fun x11 ex11 h => ?_))))
      refine L.y rfl (Y.move rfl) ?_
      exact L.nil (E.againJ ⟨x11, l10, rfl, rfl, by rw [hg1]; exact h⟩ (Nat.lt_succ_self _) ⟨rfl, rfl, rfl, rfl, rfl, trivial⟩ (fun _ hw => hw.sel [1, 2, 3, 4] (by decide) rfl))
     ·
      refine L.y rfl (Y.pickT rfl rfl) ?_
      refine L.nil (E.thenN (W.condF rfl ?_))
      refine W.skip (E.blockN (E.thenN (W.region (L.m (V := fun x12 => .int .i64 x12) h rfl (Y.addM rfl rfl) (fun x12 ex12 h => ?_)))))
      refine L.y rfl (Y.move rfl) ?_
      exact L.nil (E.againJ ⟨x12, gl3, rfl, rfl, by rw [hg1]; exact h⟩ (Nat.lt_succ_self _) ⟨rfl, rfl, rfl, rfl, rfl, trivial⟩ (fun _ hw => hw.sel [1, 2, 3, 4] (by decide) rfl))
    ·
     refine L.y rfl (Y.move rfl) ?_
     refine L.pass rfl rfl (by nofun) ?_
     refine L.pass rfl rfl (by nofun) ?_
     refine L.pass rfl rfl (by nofun) ?_
     refine L.pass rfl rfl (by nofun) ?_
     refine L.y rfl (Y.pickF rfl rfl) ?_
     refine L.nil (E.thenN (W.condF rfl ?_))
     refine W.skip (E.blockN (E.thenN (W.region (L.m (V := fun x13 => .int .i64 x13) h rfl (Y.addM rfl rfl) (fun x13 ex13 h => ?_)))))
     refine L.y rfl (Y.move rfl) ?_
     exact L.nil (E.againJ ⟨x13, gl3, rfl, rfl, by rw [hg1]; exact h⟩ (Nat.lt_succ_self _) ⟨rfl, rfl, rfl, rfl, rfl, trivial⟩ (fun _ hw => hw.sel [1, 2, 3, 4] (by decide) rfl))
   ·
    refine L.nil (E.thenN (W.seq (W.condF rfl ?_)))
    exact W.exit (E.thenX (E.KLX (E.blockX (E.joinJ ⟨gl3, rfl, rfl, h⟩ ⟨rfl, trivial⟩ (fun _ hw => hw.sel [0, 2, 3, 1] (by decide) rfl)))))
  ·
   rintro _ _ ⟨gl1, rfl, rfl, h⟩
   rw [m15_sect_Disk_Crash_K1] at h
   refine W.seq (W.drawn2 (k := 9) (stC [[8]] [Cls w F [.obj pb0 [p0_safe, p0_seen, p0_late, .int .i64 a0_left] 54, .sl p0_safe 9 1 (gl1.map SR), .sl p0_seen 9 1 (a0_seen.map SR), .sl p0_late 75 2 (a0_late.map Twrite.row)]] (Cls w F [.obj pb0 [p0_safe, p0_seen, p0_late, .int .i64 a0_left] 54, .sl p0_safe 9 1 (gl1.map SR), .sl p0_late 75 2 (a0_late.map Twrite.row)])) rfl mixed (fun _ hw => hw.drew) (Sc.now (by kernel_rfl) (fun _ hw => hw)) ?_)
   refine V2.y (i := 0) (Nx2.of (Z := Cls w F [.obj pb0 [p0_safe, p0_seen, p0_late, .int .i64 a0_left] 54, .sl p0_safe 9 1 (gl1.map SR), .sl p0_late 75 2 (a0_late.map Twrite.row)]) [] (by kernel_rfl) rfl (Zc.on (fun _ hw => hw.sel [0, 1, 3] (by decide) rfl) (Zc.fin (fun _ hw => hw)))) rfl rfl rfl (Y.move rfl) ?_
   refine V2.nilc (i := 1) (Nx2.of (Z := Cls w F [.obj pb0 [p0_safe, p0_seen, p0_late, .int .i64 a0_left] 54, .sl p0_safe 9 1 (gl1.map SR), .sl p0_late 75 2 (a0_late.map Twrite.row)]) [] (by kernel_rfl) rfl (Zc.on (fun _ hw => hw.sel [0, 1, 3] (by decide) rfl) (Zc.fin (fun _ hw => hw)))) rfl rfl rfl ?_
   refine V2.y (i := 2) (Nx2.of (Z := Cls w F [.obj pb0 [p0_safe, p0_seen, p0_late, .int .i64 a0_left] 54, .sl p0_safe 9 1 (gl1.map SR), .sl p0_late 75 2 (a0_late.map Twrite.row)]) [] (by kernel_rfl) rfl (Zc.on (fun _ hw => hw.sel [0, 1, 3] (by decide) rfl) (Zc.fin (fun _ hw => hw)))) rfl rfl rfl (Y.fieldP fd54_1 rfl) ?_
   refine V2.y (i := 3) (Nx2.of (Z := Cls w F [.obj pb0 [p0_safe, p0_seen, p0_late, .int .i64 a0_left] 54, .sl p0_safe 9 1 (gl1.map SR), .sl p0_late 75 2 (a0_late.map Twrite.row)]) [] (by kernel_rfl) rfl (Zc.on (fun _ hw => hw.sel [0, 1, 3] (by decide) rfl) (Zc.fin (fun _ hw => hw)))) rfl rfl rfl (Y.loadP (i := 0) ag30 rfl rfl rfl) ?_
   refine V2.y (i := 4) (Nx2.of (Z := Cls w F [.obj pb0 [p0_safe, p0_seen, p0_late, .int .i64 a0_left] 54, .sl p0_safe 9 1 (gl1.map SR), .sl p0_late 75 2 (a0_late.map Twrite.row)]) [] (by kernel_rfl) rfl (Zc.on (fun _ hw => hw.sel [0, 1, 3] (by decide) rfl) (Zc.fin (fun _ hw => hw)))) rfl rfl rfl (Y.move rfl) ?_
   refine V2.nilc (i := 5) (Nx2.of (Z := Cls w F [.obj pb0 [p0_safe, p0_seen, p0_late, .int .i64 a0_left] 54, .sl p0_safe 9 1 (gl1.map SR), .sl p0_late 75 2 (a0_late.map Twrite.row)]) [] (by kernel_rfl) rfl (Zc.on (fun _ hw => hw.sel [0, 1, 3] (by decide) rfl) (Zc.fin (fun _ hw => hw)))) rfl rfl rfl ?_
   refine V2.y (i := 6) (Nx2.of (Z := Cls w F [.obj pb0 [p0_safe, p0_seen, p0_late, .int .i64 a0_left] 54, .sl p0_safe 9 1 (gl1.map SR), .sl p0_late 75 2 (a0_late.map Twrite.row)]) [] (by kernel_rfl) rfl (Zc.on (fun _ hw => hw.sel [0, 1, 3] (by decide) rfl) (Zc.fin (fun _ hw => hw)))) rfl rfl rfl (Y.fieldP fd54_0 rfl) ?_
   refine V2.y (i := 7) (Nx2.of (Z := Cls w F [.obj pb0 [p0_safe, p0_seen, p0_late, .int .i64 a0_left] 54, .sl p0_safe 9 1 (gl1.map SR), .sl p0_late 75 2 (a0_late.map Twrite.row)]) [] (by kernel_rfl) rfl (Zc.on (fun _ hw => hw.sel [0, 1, 3] (by decide) rfl) (Zc.fin (fun _ hw => hw)))) rfl rfl rfl (Y.loadP (i := 0) ag30 rfl rfl rfl) ?_
   refine V2.eff (i := 8) (by kernel_rfl) rfl ?_
   refine L.copyMD (i := 2) (g := SR) (l := a0_seen) (s := gl1) rfl Tryd.underlying30 eL9 rfl rfl rfl (fun w hw => As.at_ (hw.get (i := 1) rfl)) (plain_SR _) (fun _ => ?_)
   refine L.nil (E.toV2 (stC [] [] (Cls w F [.obj pb0 [p0_safe, p0_seen, p0_late, .int .i64 a0_left] 54, .sl p0_safe 9 1 (gl1.map SR), .sl p0_late 75 2 (a0_late.map Twrite.row)])) 8 (by kernel_rfl) (Sc.past rfl (Sc.stayD (fun _ hw => hw))) (Sc.atD (fun _ hw => hw.sel [0, 1, 3] (by decide) rfl)) ?_)
   refine V2.done (by kernel_rfl) ?_
   refine E.thenN (W.region (L.y rfl (Y.move rfl) ?_))
   refine L.y rfl (Y.move rfl) ?_
   refine L.y rfl (Y.nilCheck rfl) ?_
   refine L.y rfl (Y.fieldP fd54_2 rfl) ?_
   refine L.store (i := 0) (vs := [.slice none 0 0]) sz52 rfl rfl rfl rfl (by simp [Value.oneCell', Value.cells, st, pt, el]) rfl (Nat.le_of_ble_eq_true rfl) ?_
   refine L.y rfl (Y.nilCheck rfl) ?_
   refine L.y rfl (Y.fieldP fd54_3 rfl) ?_
   refine L.store (i := 0) (vs := [.int .i64 (-1)]) sz3 rfl rfl rfl rfl (by simp [Value.oneCell', Value.cells, st, pt, el]) rfl (Nat.le_of_ble_eq_true rfl) ?_
   refine L.nil (E.end0 rfl (fun w1 hw => ?_))
   obtain rfl := Option.some.inj h
   exact ⟨_, _, rfl, ⟨_, _, _, rfl, rfl⟩, (hw.nilSl 75 2).sel [1, 2, 3, 0] (by decide) rfl⟩
set_option maxRecDepth 100000 in
set_option maxHeartbeats 8000000 in
theorem w16_quirref_Disk_Crash (a0_Seen : (List (List UInt8))) (a0_Safe : (List (List UInt8))) (a0_late : (List Int)) (a0_texts : (List (List UInt8))) (a0_left : Int) (a1 : (List Bool)) (pb0 : Nat) (p0_Seen : Value) (p0_Safe : Value) (p0_late : Value) (p0_texts : Value) (u1 : Value) (w : World) (r : ((List (List UInt8)) × (List (List UInt8)) × (List Int) × (List (List UInt8)) × Int)) (h : m16_quirref_Disk_Crash a0_Seen a0_Safe a0_late a0_texts a0_left a1 = some r) (F : List Nat) (hA1 : StbF (fun w => At w u1 1 (a1.map B)) w F) (hc0 : Cls w F [.obj pb0 [p0_Seen, p0_Safe, p0_late, p0_texts, .int .i64 a0_left] 48, .sl p0_Seen 9 1 (a0_Seen.map SR), .sl p0_Safe 9 1 (a0_Safe.map SR), .sl p0_late 3 1 (a0_late.map I), .sl p0_texts 9 1 (a0_texts.map SR)] w) : DoesF Tryd.prog 16 [pt pb0 0, u1] F w fun u m => ∃ y1 y2 y3 y4, u = .tuple #[] ∧ m = [.obj pb0 [y1, y2, y3, y4, .int .i64 r.2.2.2.2] 48, .sl y1 9 1 (r.1.map SR), .sl y2 9 1 (r.2.1.map SR), .sl y3 3 1 (r.2.2.1.map I), .sl y4 9 1 (r.2.2.2.1.map SR)] := by
  rw [m16_quirref_Disk_Crash] at h
  refine body (n := 57) Tryd.func16 rfl rfl rfl hc0 ?_
  refine W.seqJ (fun gs D => ∃ (gl1 : (List (List UInt8))), gs = [(0, pt pb0 0)] ∧ D = Cls w F [.obj pb0 [p0_Seen, p0_Safe, p0_late, p0_texts, .int .i64 a0_left] 48, .sl p0_Seen 9 1 (a0_Seen.map SR), .sl p0_Safe 9 1 (gl1.map SR), .sl p0_late 3 1 (a0_late.map I), .sl p0_texts 9 1 (a0_texts.map SR)] ∧ m16_quirref_Disk_Crash_K1 gl1 = some r) ?_ ?_
  ·
   refine W.seq (W.region (L.y rfl (Y.move rfl) ?_))
   refine L.y rfl (Y.nilCheck rfl) ?_
   refine L.y rfl (Y.fieldP fd48_2 rfl) ?_
   refine L.y rfl (Y.loadP (i := 0) ag46 rfl rfl rfl) ?_
   refine L.y rfl (Y.lenM (g := I) (l := a0_late) Tryd.underlying46 rfl (fun w hw => As.at_ (hw.get (i := 3) rfl))) ?_
   refine L.y rfl (Y.move rfl) ?_
   refine L.nil (E.thenN (W.block (W.loopJ (fun m gs D => ∃ (gx2 : Int) (gl3 : (List (List UInt8))), gs = [(0, pt pb0 0), (1, u1), (9, p0_late), (10, .int .i64 (a0_late.length : Int)), (11, .int .i64 gx2)] ∧ D = Cls w F [.obj pb0 [p0_Seen, p0_Safe, p0_late, p0_texts, .int .i64 a0_left] 48, .sl p0_late 3 1 (a0_late.map I), .sl p0_Seen 9 1 (a0_Seen.map SR), .sl p0_Safe 9 1 (gl3.map SR), .sl p0_texts 9 1 (a0_texts.map SR)] ∧ m16_quirref_Disk_Crash_L1 a0_late a1 a0_texts m gx2 gl3 = some r) ⟨0, a0_Safe, rfl, rfl, h⟩ ⟨rfl, rfl, rfl, rfl, rfl, trivial⟩ (fun _ hw => hw.sel [0, 3, 1, 2, 4] (by decide) rfl) ?_)))
   rintro m _ _ ⟨gx2, gl3, rfl, rfl, h⟩
   rcases m with _ | m
   · rw [m16_quirref_Disk_Crash_L1] at h; cases h
   rw [m16_quirref_Disk_Crash_L1] at h
   generalize hg1 : m16_quirref_Disk_Crash_L1 a0_late a1 a0_texts m = go1 at h
   rw [m16_quirref_Disk_Crash_L1B] at h
   refine W.seq (W.region (L.ite h rfl (Y.lss rfl rfl) (fun c4 h => ?_) (fun c4 h => ?_)))
   ·
    refine L.nil (E.thenN (W.seq (W.condT rfl ?_)))
    refine W.skip (E.thenN (W.seq (W.block (W.seq (W.region (L.y rfl (Y.move rfl) ?_))))))
    refine L.m (V := fun _ => el p0_late (gx2.toNat * 1)) h rfl (Y.indexM (g := I) (l := a0_late) Tryd.underlying46 sz3 rfl rfl (fun w hw => As.at_ (hw.get (i := 1) rfl))) (fun x5 ex5 h => ?_)
    refine L.y rfl (Y.loadE1 (u := .int .i64 x5) ag3 rfl (fun w hw => As.at_ (hw.get (i := 1) rfl)) (idx_map ex5)) ?_
    refine L.y rfl (Y.assign rfl) ?_
    refine L.y rfl (Y.assign rfl) ?_
    refine L.nil (E.thenN (W.seq (W.region (L.y rfl (Y.move rfl) ?_))))
    refine L.y rfl (Y.move rfl) ?_
    refine L.y rfl (Y.lenM (g := B) (l := a1) Tryd.underlying37 rfl (fun w' hw => hA1.cls0 hw)) ?_
    refine L.ite h rfl (Y.lss rfl rfl) (fun c6 h => ?_) (fun c6 h => ?_)
    ·
     refine L.y rfl (Y.move rfl) ?_
     refine L.take rfl (L.y rfl (Y.move rfl) ?_)
     refine L.take rfl (L.y rfl (Y.move rfl) ?_)
     refine L.take rfl (L.m (V := fun _ => el u1 (gx2.toNat * 1)) h rfl (Y.indexM (g := B) (l := a1) Tryd.underlying37 sz4 rfl rfl (fun w' hw => hA1.cls0 hw)) (fun x7 ex7 h => ?_))
     refine L.take rfl (L.iteB h rfl (Y.loadE1 (u := .bool x7) ag4 rfl (fun w' hw => hA1.cls0 hw) (idx_map ex7)) (fun c8 h => ?_) (fun c8 h => ?_))
     ·
      refine L.y rfl (Y.pickT rfl rfl) ?_
      refine L.nil (E.thenN (W.condT rfl ?_))
      refine W.drawn2 (k := 14) (stC [[13]] [Cls w F [.obj pb0 [p0_Seen, p0_Safe, p0_late, p0_texts, .int .i64 a0_left] 48, .sl p0_late 3 1 (a0_late.map I), .sl p0_Seen 9 1 (a0_Seen.map SR), .sl p0_Safe 9 1 (gl3.map SR), .sl p0_texts 9 1 (a0_texts.map SR)]] (Cls w F [.obj pb0 [p0_Seen, p0_Safe, p0_late, p0_texts, .int .i64 a0_left] 48, .sl p0_late 3 1 (a0_late.map I), .sl p0_Seen 9 1 (a0_Seen.map SR), .sl p0_texts 9 1 (a0_texts.map SR)])) rfl mixed (fun _ hw => hw.drew) (Sc.now (by kernel_rfl) (fun _ hw => hw)) ?_
      refine V2.y (i := 0) (Nx2.of (Z := Cls w F [.obj pb0 [p0_Seen, p0_Safe, p0_late, p0_texts, .int .i64 a0_left] 48, .sl p0_late 3 1 (a0_late.map I), .sl p0_Seen 9 1 (a0_Seen.map SR), .sl p0_texts 9 1 (a0_texts.map SR)]) [] (by kernel_rfl) rfl (Zc.on (fun _ hw => hw.sel [0, 1, 2, 4] (by decide) rfl) (Zc.fin (fun _ hw => hw)))) rfl rfl rfl (Y.move rfl) ?_
      refine V2.nilc (i := 1) (Nx2.of (Z := Cls w F [.obj pb0 [p0_Seen, p0_Safe, p0_late, p0_texts, .int .i64 a0_left] 48, .sl p0_late 3 1 (a0_late.map I), .sl p0_Seen 9 1 (a0_Seen.map SR), .sl p0_texts 9 1 (a0_texts.map SR)]) [] (by kernel_rfl) rfl (Zc.on (fun _ hw => hw.sel [0, 1, 2, 4] (by decide) rfl) (Zc.fin (fun _ hw => hw)))) rfl rfl rfl ?_
      refine V2.y (i := 2) (Nx2.of (Z := Cls w F [.obj pb0 [p0_Seen, p0_Safe, p0_late, p0_texts, .int .i64 a0_left] 48, .sl p0_late 3 1 (a0_late.map I), .sl p0_Seen 9 1 (a0_Seen.map SR), .sl p0_texts 9 1 (a0_texts.map SR)]) [] (by kernel_rfl) rfl (Zc.on (fun _ hw => hw.sel [0, 1, 2, 4] (by decide) rfl) (Zc.fin (fun _ hw => hw)))) rfl rfl rfl (Y.fieldP fd48_1 rfl) ?_
      refine V2.y (i := 3) (Nx2.of (Z := Cls w F [.obj pb0 [p0_Seen, p0_Safe, p0_late, p0_texts, .int .i64 a0_left] 48, .sl p0_late 3 1 (a0_late.map I), .sl p0_Seen 9 1 (a0_Seen.map SR), .sl p0_texts 9 1 (a0_texts.map SR)]) [] (by kernel_rfl) rfl (Zc.on (fun _ hw => hw.sel [0, 1, 2, 4] (by decide) rfl) (Zc.fin (fun _ hw => hw)))) rfl rfl rfl (Y.loadP (i := 0) ag30 rfl rfl rfl) ?_
      refine V2.y (i := 4) (Nx2.of (Z := Cls w F [.obj pb0 [p0_Seen, p0_Safe, p0_late, p0_texts, .int .i64 a0_left] 48, .sl p0_late 3 1 (a0_late.map I), .sl p0_Seen 9 1 (a0_Seen.map SR), .sl p0_texts 9 1 (a0_texts.map SR)]) [] (by kernel_rfl) rfl (Zc.on (fun _ hw => hw.sel [0, 1, 2, 4] (by decide) rfl) (Zc.fin (fun _ hw => hw)))) rfl rfl rfl (Y.move rfl) ?_
      refine V2.y (i := 5) (Nx2.of (Z := Cls w F [.obj pb0 [p0_Seen, p0_Safe, p0_late, p0_texts, .int .i64 a0_left] 48, .sl p0_late 3 1 (a0_late.map I), .sl p0_Seen 9 1 (a0_Seen.map SR), .sl p0_texts 9 1 (a0_texts.map SR)]) [] (by kernel_rfl) rfl (Zc.on (fun _ hw => hw.sel [0, 1, 2, 4] (by decide) rfl) (Zc.fin (fun _ hw => hw)))) rfl rfl rfl (Y.move rfl) ?_
      refine V2.nilc (i := 6) (Nx2.of (Z := Cls w F [.obj pb0 [p0_Seen, p0_Safe, p0_late, p0_texts, .int .i64 a0_left] 48, .sl p0_late 3 1 (a0_late.map I), .sl p0_Seen 9 1 (a0_Seen.map SR), .sl p0_texts 9 1 (a0_texts.map SR)]) [] (by kernel_rfl) rfl (Zc.on (fun _ hw => hw.sel [0, 1, 2, 4] (by decide) rfl) (Zc.fin (fun _ hw => hw)))) rfl rfl rfl ?_
      refine V2.y (i := 7) (Nx2.of (Z := Cls w F [.obj pb0 [p0_Seen, p0_Safe, p0_late, p0_texts, .int .i64 a0_left] 48, .sl p0_late 3 1 (a0_late.map I), .sl p0_Seen 9 1 (a0_Seen.map SR), .sl p0_texts 9 1 (a0_texts.map SR)]) [] (by kernel_rfl) rfl (Zc.on (fun _ hw => hw.sel [0, 1, 2, 4] (by decide) rfl) (Zc.fin (fun _ hw => hw)))) rfl rfl rfl (Y.fieldP fd48_3 rfl) ?_
      refine V2.y (i := 8) (Nx2.of (Z := Cls w F [.obj pb0 [p0_Seen, p0_Safe, p0_late, p0_texts, .int .i64 a0_left] 48, .sl p0_late 3 1 (a0_late.map I), .sl p0_Seen 9 1 (a0_Seen.map SR), .sl p0_texts 9 1 (a0_texts.map SR)]) [] (by kernel_rfl) rfl (Zc.on (fun _ hw => hw.sel [0, 1, 2, 4] (by decide) rfl) (Zc.fin (fun _ hw => hw)))) rfl rfl rfl (Y.loadP (i := 0) ag30 rfl rfl rfl) ?_
      refine V2.y (i := 9) (Nx2.of (Z := Cls w F [.obj pb0 [p0_Seen, p0_Safe, p0_late, p0_texts, .int .i64 a0_left] 48, .sl p0_late 3 1 (a0_late.map I), .sl p0_Seen 9 1 (a0_Seen.map SR), .sl p0_texts 9 1 (a0_texts.map SR)]) [] (by kernel_rfl) rfl (Zc.on (fun _ hw => hw.sel [0, 1, 2, 4] (by decide) rfl) (Zc.fin (fun _ hw => hw)))) rfl rfl rfl (Y.move rfl) ?_
      refine V2.m (i := 10) (V' := fun _ => el p0_texts (gx2.toNat * 1)) h (Nx2.of (Z := Cls w F [.obj pb0 [p0_Seen, p0_Safe, p0_late, p0_texts, .int .i64 a0_left] 48, .sl p0_late 3 1 (a0_late.map I), .sl p0_Seen 9 1 (a0_Seen.map SR), .sl p0_texts 9 1 (a0_texts.map SR)]) [] (by kernel_rfl) rfl (Zc.on (fun _ hw => hw.sel [0, 1, 2, 4] (by decide) rfl) (Zc.fin (fun _ hw => hw)))) rfl rfl rfl (Y.indexM (g := SR) (l := a0_texts) Tryd.underlying30 sz9 rfl rfl (fun w hw => As.at_ (hw.get (i := 3) rfl))) (fun x12 ex12 h => ?_)
      refine V2.y (i := 11) (Nx2.of (Z := Cls w F [.obj pb0 [p0_Seen, p0_Safe, p0_late, p0_texts, .int .i64 a0_left] 48, .sl p0_late 3 1 (a0_late.map I), .sl p0_Seen 9 1 (a0_Seen.map SR), .sl p0_texts 9 1 (a0_texts.map SR)]) [] (by kernel_rfl) rfl (Zc.on (fun _ hw => hw.sel [0, 1, 2, 4] (by decide) rfl) (Zc.fin (fun _ hw => hw)))) rfl rfl rfl (Y.loadE1 (u := st x12) ag9 rfl (fun w hw => As.at_ (hw.get (i := 3) rfl)) (idx_map ex12)) ?_
      refine V2.m (i := 12) (V' := fun _ => el p0_Safe (x5.toNat * 1)) h (Nx2.of (Z := Cls w F [.obj pb0 [p0_Seen, p0_Safe, p0_late, p0_texts, .int .i64 a0_left] 48, .sl p0_late 3 1 (a0_late.map I), .sl p0_Seen 9 1 (a0_Seen.map SR), .sl p0_Safe 9 1 (gl3.map SR), .sl p0_texts 9 1 (a0_texts.map SR)]) [13] (by kernel_rfl) rfl (Zc.at1 (fun _ hw => hw))) rfl rfl rfl (Y.indexM (g := SR) (l := gl3) Tryd.underlying30 sz9 rfl rfl (fun w hw => As.at_ (hw.get (i := 3) rfl))) (fun x13 ex13 h => ?_)
      refine V2.eff (i := 13) (by kernel_rfl) rfl ?_
      refine L.storeSlM (q := 3) (row := SR) (vs := [st x12]) (j := 0) (u1 := x12) h sz9 rfl rfl rfl rfl rfl (all1 rfl all0) rfl ex13 rfl rfl ?_
      intro l14 el14 h
      refine L.nil (E.toV2 (stC [] [] (Cls w F [.obj pb0 [p0_Seen, p0_Safe, p0_late, p0_texts, .int .i64 a0_left] 48, .sl p0_late 3 1 (a0_late.map I), .sl p0_Seen 9 1 (a0_Seen.map SR), .sl p0_texts 9 1 (a0_texts.map SR)])) 13 (by kernel_rfl) (Sc.past rfl (Sc.stayD (fun _ hw => hw))) (Sc.atD (fun _ hw => hw.sel [0, 1, 2, 4] (by decide) rfl)) ?_)
      refine V2.done (by kernel_rfl) ?_
      refine E.blockN (E.thenN (W.region (L.m (V := fun x15 => .int .i64 x15) h rfl (Y.addM rfl rfl) (fun x15 ex15 h => ?_))))
      refine L.y rfl (Y.move rfl) ?_
      exact L.nil (E.againJ ⟨x15, l14, rfl, rfl, by rw [hg1]; exact h⟩ (Nat.lt_succ_self _) ⟨rfl, rfl, rfl, rfl, rfl, trivial⟩ (fun _ hw => hw))
     ·
      refine L.y rfl (Y.pickT rfl rfl) ?_
      refine L.nil (E.thenN (W.condF rfl ?_))
      refine W.skip (E.blockN (E.thenN (W.region (L.m (V := fun x16 => .int .i64 x16) h rfl (Y.addM rfl rfl) (fun x16 ex16 h => ?_)))))
      refine L.y rfl (Y.move rfl) ?_
      exact L.nil (E.againJ ⟨x16, gl3, rfl, rfl, by rw [hg1]; exact h⟩ (Nat.lt_succ_self _) ⟨rfl, rfl, rfl, rfl, rfl, trivial⟩ (fun _ hw => hw))
    ·
     refine L.y rfl (Y.move rfl) ?_
     refine L.pass rfl rfl (by nofun) ?_
     refine L.pass rfl rfl (by nofun) ?_
     refine L.pass rfl rfl (by nofun) ?_
     refine L.pass rfl rfl (by nofun) ?_
     refine L.y rfl (Y.pickF rfl rfl) ?_
     refine L.nil (E.thenN (W.condF rfl ?_))
     refine W.skip (E.blockN (E.thenN (W.region (L.m (V := fun x17 => .int .i64 x17) h rfl (Y.addM rfl rfl) (fun x17 ex17 h => ?_)))))
     refine L.y rfl (Y.move rfl) ?_
     exact L.nil (E.againJ ⟨x17, gl3, rfl, rfl, by rw [hg1]; exact h⟩ (Nat.lt_succ_self _) ⟨rfl, rfl, rfl, rfl, rfl, trivial⟩ (fun _ hw => hw))
   ·
    refine L.nil (E.thenN (W.seq (W.condF rfl ?_)))
    exact W.exit (E.thenX (E.KLX (E.blockX (E.joinJ ⟨gl3, rfl, rfl, h⟩ ⟨rfl, trivial⟩ (fun _ hw => hw.sel [0, 2, 3, 1, 4] (by decide) rfl)))))
  ·
   rintro _ _ ⟨gl1, rfl, rfl, h⟩
   rw [m16_quirref_Disk_Crash_K1] at h
   refine W.seq (W.region (L.y rfl (Y.move rfl) ?_))
   refine L.y rfl (Y.move rfl) ?_
   refine L.y rfl (Y.nilCheck rfl) ?_
   refine L.y rfl (Y.fieldP fd48_1 rfl) ?_
   refine L.y rfl (Y.loadP (i := 0) ag30 rfl rfl rfl) ?_
   obtain ⟨l1, e3, h⟩ := bind1S h
   refine L.does rfl en40 rfl (fun w' hw => w40_slices_Clone_string gl1 p0_Safe w' _ e3 (As.at_ (hw.get (i := 2) rfl))) ?_
   rintro v2 _ ⟨_, rfl, rfl⟩
   refine L.y rfl (Y.nilCheck rfl) ?_
   refine L.y rfl (Y.fieldP fd48_0 rfl) ?_
   refine L.storeV (i := 1) sz30 rfl rfl (fun _ hw => (As.at_ (hw.get (i := 0) rfl)).one) rfl (Nat.le_of_ble_eq_true rfl) ?_
   refine L.nil (E.thenN (W.region (L.y rfl (Y.move rfl) ?_)))
   refine L.y rfl (Y.move rfl) ?_
   refine L.y rfl (Y.move rfl) ?_
   refine L.y rfl (Y.nilCheck rfl) ?_
   refine L.y rfl (Y.fieldP fd48_2 rfl) ?_
   refine L.store (i := 1) (vs := [.slice none 0 0]) sz46 rfl rfl rfl rfl (by simp [Value.oneCell', Value.cells, st, pt, el]) rfl (Nat.le_of_ble_eq_true rfl) ?_
   refine L.y rfl (Y.nilCheck rfl) ?_
   refine L.y rfl (Y.fieldP fd48_3 rfl) ?_
   refine L.store (i := 1) (vs := [.slice none 0 0]) sz30 rfl rfl rfl rfl (by simp [Value.oneCell', Value.cells, st, pt, el]) rfl (Nat.le_of_ble_eq_true rfl) ?_
   refine L.y rfl (Y.nilCheck rfl) ?_
   refine L.y rfl (Y.fieldP fd48_4 rfl) ?_
   refine L.store (i := 1) (vs := [.int .i64 (-1)]) sz3 rfl rfl rfl rfl (by simp [Value.oneCell', Value.cells, st, pt, el]) rfl (Nat.le_of_ble_eq_true rfl) ?_
   refine L.nil (E.end0 rfl (fun w1 hw => ?_))
   obtain rfl := Option.some.inj h
   exact ⟨_, _, rfl, ⟨_, _, _, _, rfl, rfl⟩, ((hw.nilSl 3 1).nilSl 9 1).sel [3, 2, 5, 1, 0] (by decide) rfl⟩
set_option maxRecDepth 100000 in
set_option maxHeartbeats 8000000 in
theorem w41_quirref_Disk_Read (a0_Seen : (List (List UInt8))) (a0_Safe : (List (List UInt8))) (a0_late : (List Int)) (a0_texts : (List (List UInt8))) (a0_left : Int) (a1 : Int) (pb0 : Nat) (p0_Seen : Value) (p0_Safe : Value) (p0_late : Value) (p0_texts : Value) (w : World) (r : ((List UInt8) × Int)) (h : m41_quirref_Disk_Read a0_Seen a0_Safe a0_late a0_texts a0_left a1 = some r) (F : List Nat) (hc0 : Cls w F [.obj pb0 [p0_Seen, p0_Safe, p0_late, p0_texts, .int .i64 a0_left] 48, .sl p0_Seen 9 1 (a0_Seen.map SR), .sl p0_Safe 9 1 (a0_Safe.map SR), .sl p0_late 3 1 (a0_late.map I), .sl p0_texts 9 1 (a0_texts.map SR)] w) : DoesF Tryd.prog 41 [pt pb0 0, .int .i64 a1] F w fun u m => u = .tuple #[st r.1, .int .i64 r.2] ∧ m = [.obj pb0 [p0_Seen, p0_Safe, p0_late, p0_texts, .int .i64 a0_left] 48, .sl p0_Seen 9 1 (a0_Seen.map SR), .sl p0_Safe 9 1 (a0_Safe.map SR), .sl p0_late 3 1 (a0_late.map I), .sl p0_texts 9 1 (a0_texts.map SR)] := by
  rw [m41_quirref_Disk_Read] at h
  refine body (n := 29) Tryd.func41 rfl rfl rfl hc0 ?_
  refine W.seq (W.region (L.y rfl (Y.assign rfl) ?_))
  refine L.y rfl (Y.assign rfl) ?_
  refine L.nil (E.thenN (W.seqJ (fun gs D => gs = [(0, pt pb0 0), (1, .int .i64 a1)] ∧ D = Cls w F [.obj pb0 [p0_Seen, p0_Safe, p0_late, p0_texts, .int .i64 a0_left] 48, .sl p0_Seen 9 1 (a0_Seen.map SR), .sl p0_Safe 9 1 (a0_Safe.map SR), .sl p0_late 3 1 (a0_late.map I), .sl p0_texts 9 1 (a0_texts.map SR)] ∧ m41_quirref_Disk_Read_K1 a0_left a0_Seen a1 = some r) ?_ ?_))
  ·
   refine W.seq (W.region (L.y rfl (Y.move rfl) ?_))
   refine L.ite h rfl (Y.lss rfl rfl) (fun c3 h => ?_) (fun c3 h => ?_)
   ·
    refine L.y rfl (Y.move rfl) ?_
    refine L.pass rfl rfl (by nofun) ?_
    refine L.pass rfl rfl (by nofun) ?_
    refine L.pass rfl rfl (by nofun) ?_
    refine L.pass rfl rfl (by nofun) ?_
    refine L.pass rfl rfl (by nofun) ?_
    refine L.pass rfl rfl (by nofun) ?_
    refine L.pass rfl rfl (by nofun) ?_
    refine L.y rfl (Y.pickT rfl rfl) ?_
    refine L.nil (E.thenN (W.condT rfl ?_))
    refine W.seq (W.region (L.y rfl (Y.assign rfl) ?_))
    refine L.y rfl (Y.assign rfl) ?_
    refine L.nil (E.thenN (W.ret (E.KSR (E.ret2 rfl rfl rfl (fun w1 hw => ?_)))))
    obtain rfl := Option.some.inj h
    exact ⟨_, _, rfl, ⟨rfl, rfl⟩, hw⟩
   ·
    refine L.y rfl (Y.move rfl) ?_
    refine L.take rfl (L.y rfl (Y.move rfl) ?_)
    refine L.take rfl (L.y rfl (Y.move rfl) ?_)
    refine L.take rfl (L.y rfl (Y.nilCheck rfl) ?_)
    refine L.take rfl (L.y rfl (Y.fieldP fd48_0 rfl) ?_)
    refine L.take rfl (L.y rfl (Y.loadP (i := 0) ag30 rfl rfl rfl) ?_)
    refine L.take rfl (L.y rfl (Y.lenM (g := SR) (l := a0_Seen) Tryd.underlying30 rfl (fun w hw => As.at_ (hw.get (i := 1) rfl))) ?_)
    refine L.take rfl (L.ite h rfl (Y.geq rfl rfl) (fun c4 h => ?_) (fun c4 h => ?_))
    ·
     refine L.y rfl (Y.pickF rfl rfl) ?_
     refine L.nil (E.thenN (W.condT rfl ?_))
     refine W.seq (W.region (L.y rfl (Y.assign rfl) ?_))
     refine L.y rfl (Y.assign rfl) ?_
     refine L.nil (E.thenN (W.ret (E.KSR (E.ret2 rfl rfl rfl (fun w1 hw => ?_)))))
     obtain rfl := Option.some.inj h
     exact ⟨_, _, rfl, ⟨rfl, rfl⟩, hw⟩
    ·
     refine L.y rfl (Y.pickF rfl rfl) ?_
     refine L.nil (E.thenN (W.condF rfl ?_))
     exact W.skip (E.joinJ ⟨rfl, rfl, h⟩ ⟨rfl, rfl, trivial⟩ (fun _ hw => hw))
  ·
   rintro _ _ ⟨rfl, rfl, h⟩
   rw [m41_quirref_Disk_Read_K1] at h
   refine W.seq (W.seq (W.region (L.y rfl (Y.move rfl) ?_)))
   refine L.y rfl (Y.nilCheck rfl) ?_
   refine L.y rfl (Y.fieldP fd48_4 rfl) ?_
   refine L.y rfl (Y.loadP (i := 0) ag3 rfl rfl rfl) ?_
   refine L.ite h rfl (Y.eql rfl rfl) (fun c1 h => ?_) (fun c1 h => ?_)
   ·
    refine L.nil (E.thenN (W.condT rfl ?_))
    refine W.seq (W.region (L.y rfl (Y.assign rfl) ?_))
    refine L.y rfl (Y.assign rfl) ?_
    refine L.nil (E.thenN (W.ret (E.thenR (E.ret2 rfl rfl rfl (fun w1 hw => ?_)))))
    obtain rfl := Option.some.inj h
    exact ⟨_, _, rfl, ⟨rfl, rfl⟩, hw⟩
   ·
    refine L.nil (E.thenN (W.condF rfl ?_))
    refine W.skip (E.thenN (W.seq (W.region (L.y rfl (Y.move rfl) ?_))))
    refine L.y rfl (Y.nilCheck rfl) ?_
    refine L.y rfl (Y.fieldP fd48_0 rfl) ?_
    refine L.y rfl (Y.loadP (i := 0) ag30 rfl rfl rfl) ?_
    refine L.y rfl (Y.move rfl) ?_
    refine L.m (V := fun _ => el p0_Seen (a1.toNat * 1)) h rfl (Y.indexM (g := SR) (l := a0_Seen) Tryd.underlying30 sz9 rfl rfl (fun w hw => As.at_ (hw.get (i := 1) rfl))) (fun x2 ex2 h => ?_)
    refine L.y rfl (Y.loadE1 (u := st x2) ag9 rfl (fun w hw => As.at_ (hw.get (i := 1) rfl)) (idx_map ex2)) ?_
    refine L.y rfl (Y.assign rfl) ?_
    refine L.y rfl (Y.assign rfl) ?_
    refine L.nil (E.thenN (W.ret (E.ret2 rfl rfl rfl (fun w1 hw => ?_))))
    obtain rfl := Option.some.inj h
    exact ⟨_, _, rfl, ⟨rfl, rfl⟩, hw⟩
end Go.Proofs.YtinchlfaepjfiaaDoor
