/-
  Package hope and the document's answer: what each function returns.
  Conditions: as each theorem says.
-/
import Derived.Test.YtfmgjigdebofaaaRows
import Derived.Test.YtfmgjigdebofaaaC
import Derived.Test.YtfmgjigdebofaaaSlices
import Derived.Test.YtfmgjigdebofaaaHopeP
namespace Go.Proofs.Ytfmgjigdebofaaa.Hope
open Go.S Slices HopeP
theorem ag3 : aggB Try.prog 3 false = true := by kernel_rfl
theorem ag4 : aggB Try.prog 4 false = true := by kernel_rfl
theorem ag24 : aggB Try.prog 24 false = true := by kernel_rfl
theorem ag158 : aggB Try.prog 158 true = true := by kernel_rfl
theorem el4 : elemB Try.prog 4 1 1 = true := by kernel_rfl
theorem el24 : elemB Try.prog 24 1 24 = true := by kernel_rfl
theorem en39 : entB Try.prog 39 = true := by kernel_rfl
theorem en40 : entB Try.prog 40 = true := by kernel_rfl
theorem en41 : entB Try.prog 41 = true := by kernel_rfl
theorem en42 : entB Try.prog 42 = true := by kernel_rfl
theorem en43 : entB Try.prog 43 = true := by kernel_rfl
theorem en78 : entB Try.prog 78 = true := by kernel_rfl
theorem en101 : entB Try.prog 101 = true := by kernel_rfl
theorem en102 : entB Try.prog 102 = true := by kernel_rfl
theorem en103 : entB Try.prog 103 = true := by kernel_rfl
theorem en134 : entB Try.prog 134 = true := by kernel_rfl
theorem en144 : entB Try.prog 144 = true := by kernel_rfl
theorem fd158_0 : fieldB Try.prog 158 0 0 = true := by kernel_rfl
theorem fd158_1 : fieldB Try.prog 158 1 1 = true := by kernel_rfl
theorem fd158_2 : fieldB Try.prog 158 2 2 = true := by kernel_rfl
theorem fd158_3 : fieldB Try.prog 158 3 3 = true := by kernel_rfl
theorem sz3 : szB Try.prog 3 1 = true := by kernel_rfl
theorem sz4 : szB Try.prog 4 1 = true := by kernel_rfl
theorem sz24 : szB Try.prog 24 1 = true := by kernel_rfl
theorem sz158 : szB Try.prog 158 4 = true := by kernel_rfl
theorem ze4 : zeroB Try.prog 4 = some [.bool false] := by kernel_rfl
theorem ze158 : zeroB Try.prog 158 = some [.int .i64 0, .int .i64 0, .slice none 0 0, .slice none 0 0] := by kernel_rfl
theorem mixed : Try.prog.follows .mixedOrders = true := by kernel_rfl
set_option maxRecDepth 100000 in
theorem check (l : List TryV) (v : Value) (w : World) (hT : Tries w v l) : Does Try.prog 41 [v] w fun u _ => u = .int .i64 (chk l) := by
  have hll : (l.map TryV.row).length = l.length := List.length_map _
  have hle := hT.1.le
  unfold maxLen at hle
  refine body (n := 74) Try.func41 rfl rfl rfl (Cls.refl w) ?_
  refine W.seq ?_
  refine W.region ?_
  refine L.y rfl (Y.assign rfl) ?_
  refine L.nil ?_
  refine E.thenN ?_
  refine W.seq ?_
  refine W.seq ?_
  refine W.region ?_
  refine L.y rfl (Y.move rfl) ?_
  refine L.y rfl (Y.lenA Try.underlying52 rfl (fun w' hw => hT.1.cls0 hw)) ?_
  refine L.split rfl (Y.gtr rfl rfl) (fun hbig => ?_) (fun hbig => ?_)
  ·
    refine L.nil ?_
    refine E.thenN ?_
    refine W.condT rfl ?_
    refine W.seq ?_
    refine W.region ?_
    refine L.y rfl (Y.assign rfl) ?_
    refine L.nil ?_
    refine E.thenN ?_
    refine W.ret ?_
    refine E.thenR ?_
    refine E.ret1 rfl rfl (fun w hw => ?_)
    refine ⟨_, _, rfl, ?_, hw.sublist (List.nil_sublist _)⟩
    rw [chk_big (by omega)]
  ·
    refine L.nil ?_
    refine E.thenN ?_
    refine W.condF rfl ?_
    refine W.skip ?_
    refine E.thenN ?_
    refine W.seq ?_
    refine W.seq ?_
    refine W.region ?_
    refine L.y rfl (Y.move rfl) ?_
    refine L.y rfl (Y.lenA Try.underlying52 rfl (fun w' hw => hT.1.cls0 hw)) ?_
    refine L.y rfl (Y.move rfl) ?_
    refine L.nil ?_
    refine E.thenN ?_
    refine W.block ?_
    refine W.loop (X := Nat) (fun k => [(0, v), (10, v), (11, .int .i64 ((l.map TryV.row).length : Nat)), (12, .int .i64 (k : Nat))]) (fun k => Cls w [] []) (fun k => k ≤ l.length ∧ chk l = chkL (prevOf l k) (l.drop k)) (fun k => l.length - k) 0 ⟨Nat.zero_le _, by rw [chk_small (by omega)]; rfl⟩ ⟨rfl, rfl, rfl, rfl, trivial⟩ (fun _ hw => hw) ?_
    rintro k ⟨hk, hv⟩
    refine W.seq ?_
    refine W.region ?_
    refine L.split rfl (Y.lss rfl rfl) (fun ha => ?_) (fun ha => ?_)
    ·
      refine L.nil ?_
      refine E.thenN ?_
      refine W.seq ?_
      refine W.condT rfl ?_
      refine W.skip ?_
      refine E.thenN ?_
      refine W.seq ?_
      refine W.block ?_
      refine W.seq ?_
      refine W.region ?_
      refine L.y rfl (Y.move rfl) ?_
      obtain ⟨x, hx⟩ := have_get (l := l) (k := k) (by omega)
      have hR := (hT.2 x (List.mem_of_getElem? hx)).1
      have hW := (hT.2 x (List.mem_of_getElem? hx)).2
      have hrl := ints_length x.rs
      have hwl := ints_length x.ws
      refine L.y rfl (Y.indexE Try.underlying52 sz158 rfl rfl (fun w' hw => hT.1.cls0 hw) (by omega) (by omega)) ?_
      refine L.y rfl (Y.loadEN ag158 sz158 rfl (fun w' hw => hT.1.cls0 hw) (map_get hx) rfl) ?_
      refine L.alloc rfl ze158 ?_
      intro b4
      refine L.y rfl (Y.assign rfl) ?_
      refine L.store (i := 0) sz158 rfl rfl rfl rfl (row_one hR hW) rfl (by decide) ?_
      refine L.nil ?_
      refine E.thenN ?_
      refine W.seq ?_
      refine W.seq ?_
      refine W.region ?_
      refine L.y rfl (Y.fieldP fd158_0 rfl) ?_
      refine L.y rfl (Y.loadP (i := 0) ag3 rfl rfl rfl) ?_
      refine L.split rfl (Y.lss rfl rfl) (fun c1 => ?_) (fun c1 => ?_)
      ·
        refine L.y rfl (Y.move rfl) ?_
        refine L.pass rfl rfl (by nofun) ?_
        refine L.pass rfl rfl (by nofun) ?_
        refine L.pass rfl rfl (by nofun) ?_
        refine L.pass rfl rfl (by nofun) ?_
        refine L.pass rfl rfl (by nofun) ?_
        refine L.y rfl (Y.pickT rfl rfl) ?_
        refine L.y rfl (Y.move rfl) ?_
        refine L.pass rfl rfl (by nofun) ?_
        refine L.pass rfl rfl (by nofun) ?_
        refine L.pass rfl rfl (by nofun) ?_
        refine L.y rfl (Y.pickT rfl rfl) ?_
        refine L.nil ?_
        refine E.thenN ?_
        refine W.condT rfl ?_
        refine W.seq ?_
        refine W.region ?_
        refine L.y rfl (Y.assign rfl) ?_
        refine L.nil ?_
        refine E.thenN ?_
        refine W.ret ?_
        refine E.thenR ?_
        refine E.blockR ?_
        refine E.thenR ?_
        refine E.thenR ?_
        refine E.blockR ?_
        refine E.thenR ?_
        refine E.ret1 rfl rfl (fun w hw => ?_)
        refine ⟨_, _, rfl, ?_, hw.sublist (List.nil_sublist _)⟩
        rw [hv, chkL_err hx (chkOne_arg (Or.inl c1)) (by decide)]
      ·
        refine L.y rfl (Y.move rfl) ?_
        refine L.take rfl ?_
        refine L.y rfl (Y.fieldP fd158_1 rfl) ?_
        refine L.take rfl ?_
        refine L.y rfl (Y.loadP (i := 0) ag3 rfl rfl rfl) ?_
        refine L.take rfl ?_
        refine L.y rfl (Y.fieldP fd158_0 rfl) ?_
        refine L.take rfl ?_
        refine L.y rfl (Y.loadP (i := 0) ag3 rfl rfl rfl) ?_
        refine L.take rfl ?_
        refine L.split rfl (Y.leq rfl rfl) (fun c2 => ?_) (fun c2 => ?_)
        ·
          refine L.y rfl (Y.pickF rfl rfl) ?_
          refine L.y rfl (Y.move rfl) ?_
          refine L.pass rfl rfl (by nofun) ?_
          refine L.pass rfl rfl (by nofun) ?_
          refine L.pass rfl rfl (by nofun) ?_
          refine L.y rfl (Y.pickT rfl rfl) ?_
          refine L.nil ?_
          refine E.thenN ?_
          refine W.condT rfl ?_
          refine W.seq ?_
          refine W.region ?_
          refine L.y rfl (Y.assign rfl) ?_
          refine L.nil ?_
          refine E.thenN ?_
          refine W.ret ?_
          refine E.thenR ?_
          refine E.blockR ?_
          refine E.thenR ?_
          refine E.thenR ?_
          refine E.blockR ?_
          refine E.thenR ?_
          refine E.ret1 rfl rfl (fun w hw => ?_)
          refine ⟨_, _, rfl, ?_, hw.sublist (List.nil_sublist _)⟩
          rw [hv, chkL_err hx (chkOne_arg (Or.inr (Or.inl c2))) (by decide)]
        ·
          refine L.y rfl (Y.pickF rfl rfl) ?_
          refine L.y rfl (Y.move rfl) ?_
          refine L.take rfl ?_
          refine L.y rfl (Y.fieldP fd158_1 rfl) ?_
          refine L.take rfl ?_
          refine L.y rfl (Y.loadP (i := 0) ag3 rfl rfl rfl) ?_
          refine L.take rfl ?_
          refine L.split rfl (Y.gtr rfl rfl) (fun c3 => ?_) (fun c3 => ?_)
          ·
            refine L.y rfl (Y.pickF rfl rfl) ?_
            refine L.nil ?_
            refine E.thenN ?_
            refine W.condT rfl ?_
            refine W.seq ?_
            refine W.region ?_
            refine L.y rfl (Y.assign rfl) ?_
            refine L.nil ?_
            refine E.thenN ?_
            refine W.ret ?_
            refine E.thenR ?_
            refine E.blockR ?_
            refine E.thenR ?_
            refine E.thenR ?_
            refine E.blockR ?_
            refine E.thenR ?_
            refine E.ret1 rfl rfl (fun w hw => ?_)
            refine ⟨_, _, rfl, ?_, hw.sublist (List.nil_sublist _)⟩
            rw [hv, chkL_err hx (chkOne_arg (Or.inr (Or.inr c3))) (by decide)]
          ·
            refine L.y rfl (Y.pickF rfl rfl) ?_
            refine L.nil ?_
            refine E.thenN ?_
            refine W.condF rfl ?_
            refine W.skip ?_
            refine E.thenN ?_
            refine W.seq ?_
            refine W.seq ?_
            refine W.region ?_
            refine L.y rfl (Y.fieldP fd158_2 rfl) ?_
            refine L.y rfl (Y.loadP (i := 0) ag24 rfl rfl rfl) ?_
            refine L.y rfl (Y.lenA Try.underlying24 rfl (fun w' hw => hR.cls0 hw)) ?_
            refine L.split rfl (Y.gtr rfl rfl) (fun c4 => ?_) (fun c4 => ?_)
            ·
              refine L.y rfl (Y.move rfl) ?_
              refine L.pass rfl rfl (by nofun) ?_
              refine L.pass rfl rfl (by nofun) ?_
              refine L.pass rfl rfl (by nofun) ?_
              refine L.pass rfl rfl (by nofun) ?_
              refine L.y rfl (Y.pickT rfl rfl) ?_
              refine L.nil ?_
              refine E.thenN ?_
              refine W.condT rfl ?_
              refine W.seq ?_
              refine W.region ?_
              refine L.y rfl (Y.assign rfl) ?_
              refine L.nil ?_
              refine E.thenN ?_
              refine W.ret ?_
              refine E.thenR ?_
              refine E.blockR ?_
              refine E.thenR ?_
              refine E.thenR ?_
              refine E.blockR ?_
              refine E.thenR ?_
              refine E.ret1 rfl rfl (fun w hw => ?_)
              refine ⟨_, _, rfl, ?_, hw.sublist (List.nil_sublist _)⟩
              rw [hv, chkL_err hx (chkOne_large c1 c2 c3 (Or.inl (by omega))) (by decide)]
            ·
              refine L.y rfl (Y.move rfl) ?_
              refine L.take rfl ?_
              refine L.y rfl (Y.fieldP fd158_3 rfl) ?_
              refine L.take rfl ?_
              refine L.y rfl (Y.loadP (i := 0) ag24 rfl rfl rfl) ?_
              refine L.take rfl ?_
              refine L.y rfl (Y.lenA Try.underlying24 rfl (fun w' hw => hW.cls0 hw)) ?_
              refine L.take rfl ?_
              refine L.split rfl (Y.gtr rfl rfl) (fun c5 => ?_) (fun c5 => ?_)
              ·
                refine L.y rfl (Y.pickF rfl rfl) ?_
                refine L.nil ?_
                refine E.thenN ?_
                refine W.condT rfl ?_
                refine W.seq ?_
                refine W.region ?_
                refine L.y rfl (Y.assign rfl) ?_
                refine L.nil ?_
                refine E.thenN ?_
                refine W.ret ?_
                refine E.thenR ?_
                refine E.blockR ?_
                refine E.thenR ?_
                refine E.thenR ?_
                refine E.blockR ?_
                refine E.thenR ?_
                refine E.ret1 rfl rfl (fun w hw => ?_)
                refine ⟨_, _, rfl, ?_, hw.sublist (List.nil_sublist _)⟩
                rw [hv, chkL_err hx (chkOne_large c1 c2 c3 (Or.inr (by omega))) (by decide)]
              ·
                refine L.y rfl (Y.pickF rfl rfl) ?_
                refine L.nil ?_
                refine E.thenN ?_
                refine W.condF rfl ?_
                refine W.skip ?_
                refine E.thenN ?_
                refine W.seq ?_
                refine W.seq ?_
                refine W.region ?_
                refine L.y rfl (Y.fieldP fd158_2 rfl) ?_
                refine L.y rfl (Y.loadP (i := 0) ag24 rfl rfl rfl) ?_
                refine L.y rfl (Y.fieldP fd158_3 rfl) ?_
                refine L.y rfl (Y.loadP (i := 0) ag24 rfl rfl rfl) ?_
                refine L.lit (xs := [.tmp 43, .tmp 45]) rfl Try.underlying25 el24 rfl rfl rfl rfl (by simp [hR.cells1, hW.cells1]) ?_
                intro b46
                refine L.does rfl en102 rfl (fun w' hw => concat_ints [x.rv, x.wv] [x.rs, x.ws] _ w' (As.at_ (hw.get (i := 0) rfl)) rfl (two_at (hR.cls0 hw) (hW.cls0 hw)) (by simp; omega) (by simp)) ?_
                rintro c m' rfl
                have hcl := ints_length (x.rs ++ x.ws)
                have hcl2 : (x.rs ++ x.ws).length = x.rs.length + x.ws.length := List.length_append
                have hcf : [x.rs, x.ws].flatten = x.rs ++ x.ws := by simp
                rw [hcf]
                refine L.y rfl (Y.lenA Try.underlying24 rfl (fun w hw => As.at_ (hw.get (i := 0) rfl))) ?_
                refine L.y rfl (Y.move rfl) ?_
                refine L.nil ?_
                refine E.thenN ?_
                refine W.block ?_
                refine W.loop (X := Nat) (fun q => [(0, v), (10, v), (11, .int .i64 ((l.map TryV.row).length : Nat)), (12, .int .i64 (k : Nat)), (3, .int .i64 (k : Nat)), (4, pt b4 0), (47, c), (48, .int .i64 ((ints (x.rs ++ x.ws)).length : Nat)), (49, .int .i64 (q : Nat))]) (fun q => Cls w [] [.sl c 3 1 (ints (x.rs ++ x.ws)), .obj b4 x.row 158]) (fun q => q ≤ (x.rs ++ x.ws).length ∧ ∀ y ∈ (x.rs ++ x.ws).take q, badKey y = false) (fun q => (x.rs ++ x.ws).length - q) 0 ⟨Nat.zero_le _, by simp⟩ ⟨rfl, rfl, rfl, rfl, rfl, rfl, rfl, rfl, rfl, trivial⟩ (fun _ hw => hw.sublist (.cons_cons _ (.cons _ (.cons_cons _ .slnil)))) ?_
                rintro q ⟨hq, hall⟩
                refine W.seq ?_
                refine W.region ?_
                refine L.split rfl (Y.lss rfl rfl) (fun hb => ?_) (fun hb => ?_)
                ·
                  refine L.nil ?_
                  refine E.thenN ?_
                  refine W.seq ?_
                  refine W.condT rfl ?_
                  refine W.skip ?_
                  refine E.thenN ?_
                  refine W.seq ?_
                  refine W.block ?_
                  refine W.seq ?_
                  refine W.region ?_
                  obtain ⟨y, hy⟩ := have_get (l := x.rs ++ x.ws) (k := q) (by omega)
                  refine L.y rfl (Y.indexE Try.underlying24 sz3 rfl rfl (fun w hw => As.at_ (hw.get (i := 0) rfl)) (by omega) (by omega)) ?_
                  refine L.y rfl (Y.loadE1 ag3 rfl (fun w hw => As.at_ (hw.get (i := 0) rfl)) (ints_get hy)) ?_
                  refine L.y rfl (Y.assign rfl) ?_
                  refine L.nil ?_
                  refine E.thenN ?_
                  refine W.seq ?_
                  refine W.region ?_
                  refine L.y rfl (Y.move rfl) ?_
                  refine L.split rfl (Y.lss rfl rfl) (fun d1 => ?_) (fun d1 => ?_)
                  ·
                    refine L.y rfl (Y.move rfl) ?_
                    refine L.pass rfl rfl (by nofun) ?_
                    refine L.pass rfl rfl (by nofun) ?_
                    refine L.y rfl (Y.pickT rfl rfl) ?_
                    refine L.nil ?_
                    refine E.thenN ?_
                    refine W.condT rfl ?_
                    refine W.seq ?_
                    refine W.region ?_
                    refine L.y rfl (Y.assign rfl) ?_
                    refine L.nil ?_
                    refine E.thenN ?_
                    refine W.ret ?_
                    refine E.blockR ?_
                    refine E.thenR ?_
                    refine E.thenR ?_
                    refine E.blockR ?_
                    refine E.thenR ?_
                    refine E.blockR ?_
                    refine E.thenR ?_
                    refine E.thenR ?_
                    refine E.blockR ?_
                    refine E.thenR ?_
                    refine E.ret1 rfl rfl (fun w hw => ?_)
                    refine ⟨_, _, rfl, ?_, hw.sublist (List.nil_sublist _)⟩
                    rw [hv, chkL_err hx (chkOne_key c1 c2 c3 (by omega) (by omega) (List.mem_of_getElem? hy) (badKey_yes (Or.inl d1))) (by decide)]
                  ·
                    refine L.y rfl (Y.move rfl) ?_
                    refine L.take rfl ?_
                    refine L.y rfl (Y.move rfl) ?_
                    refine L.take rfl ?_
                    refine L.split rfl (Y.geq rfl rfl) (fun d2 => ?_) (fun d2 => ?_)
                    ·
                      refine L.y rfl (Y.pickF rfl rfl) ?_
                      refine L.nil ?_
                      refine E.thenN ?_
                      refine W.condT rfl ?_
                      refine W.seq ?_
                      refine W.region ?_
                      refine L.y rfl (Y.assign rfl) ?_
                      refine L.nil ?_
                      refine E.thenN ?_
                      refine W.ret ?_
                      refine E.blockR ?_
                      refine E.thenR ?_
                      refine E.thenR ?_
                      refine E.blockR ?_
                      refine E.thenR ?_
                      refine E.blockR ?_
                      refine E.thenR ?_
                      refine E.thenR ?_
                      refine E.blockR ?_
                      refine E.thenR ?_
                      refine E.ret1 rfl rfl (fun w hw => ?_)
                      refine ⟨_, _, rfl, ?_, hw.sublist (List.nil_sublist _)⟩
                      rw [hv, chkL_err hx (chkOne_key c1 c2 c3 (by omega) (by omega) (List.mem_of_getElem? hy) (badKey_yes (Or.inr d2))) (by decide)]
                    ·
                      refine L.y rfl (Y.pickF rfl rfl) ?_
                      refine L.nil ?_
                      refine E.thenN ?_
                      refine W.condF rfl ?_
                      refine W.skip ?_
                      refine E.blockN ?_
                      refine E.thenN ?_
                      refine W.region ?_
                      refine L.y rfl (Y.add rfl rfl (i64_in (by omega) (by omega))) ?_
                      refine L.y rfl (Y.move rfl) ?_
                      refine L.nil ?_
                      refine E.again (x := q) (q + 1) ⟨by omega, all_step hy hall (badKey_no (by omega) (by omega))⟩ (by omega) ⟨rfl, rfl, rfl, rfl, rfl, rfl, rfl, rfl, rfl, trivial⟩ (fun _ hw => hw)
                ·
                  have hall := all_all hall (by omega)
                  refine L.nil ?_
                  refine E.thenN ?_
                  refine W.seq ?_
                  refine W.condF rfl ?_
                  refine W.exit ?_
                  refine E.thenX ?_
                  refine E.thenX ?_
                  refine E.blockX ?_
                  refine E.thenN ?_
                  refine W.seq ?_
                  refine W.quiet mixed (by kernel_rfl) (fun _ hw => hw.drew) ?_
                  refine U.y rfl (Y.move rfl) ?_
                  refine U.split rfl (Y.gtr rfl rfl) (fun e1 => ?_) (fun e1 => ?_)
                  ·
                    refine U.y rfl (Y.move rfl) ?_
                    refine U.take rfl ?_
                    refine U.y rfl (Y.fieldP fd158_1 rfl) ?_
                    refine U.take rfl ?_
                    refine U.y rfl (Y.loadP (i := 1) ag3 rfl rfl rfl) ?_
                    refine U.take rfl ?_
                    refine U.y rfl (Y.move rfl) ?_
                    refine U.take rfl ?_
                    refine U.y rfl (Y.move rfl) ?_
                    refine U.take rfl ?_
                    refine U.y rfl (Y.sub rfl rfl (i64_in (by omega) (by omega))) ?_
                    refine U.take rfl ?_
                    obtain ⟨z, hz⟩ := have_get (l := l) (k := k - 1) (by omega)
                    have hzx : l[((k : Int) - 1).toNat]? = some z := by rw [show ((k : Int) - 1).toNat = k - 1 by omega]; exact hz
                    refine U.y rfl (Y.indexE Try.underlying52 sz158 rfl rfl (fun w' hw => hT.1.cls0 hw) (by omega) (by omega)) ?_
                    refine U.take rfl ?_
                    refine U.y rfl (Y.fieldE fd158_1 rfl) ?_
                    refine U.take rfl ?_
                    refine U.y rfl (Y.loadE ag3 rfl (fun w' hw => hT.1.cls0 hw) (map_get hzx) rfl) ?_
                    refine U.take rfl ?_
                    refine U.split rfl (Y.leq rfl rfl) (fun e2 => ?_) (fun e2 => ?_)
                    ·
                      refine U.y rfl (Y.pickT rfl rfl) ?_
                      refine U.nil ?_
                      refine E.thenN ?_
                      refine W.condT rfl ?_
                      refine W.seq ?_
                      refine W.region ?_
                      refine L.y rfl (Y.assign rfl) ?_
                      refine L.nil ?_
                      refine E.thenN ?_
                      refine W.ret ?_
                      refine E.blockR ?_
                      refine E.thenR ?_
                      refine E.thenR ?_
                      refine E.blockR ?_
                      refine E.thenR ?_
                      refine E.ret1 rfl rfl (fun w hw => ?_)
                      refine ⟨_, _, rfl, ?_, hw.sublist (List.nil_sublist _)⟩
                      rw [hv, chkL_err hx (chkOne_form c1 c2 c3 (by omega) (by omega) hall (by omega) hz e2) (by decide)]
                    ·
                      refine U.y rfl (Y.pickT rfl rfl) ?_
                      refine U.nil ?_
                      refine E.thenN ?_
                      refine W.condF rfl ?_
                      refine W.skip ?_
                      refine E.blockN ?_
                      refine E.thenN ?_
                      refine W.region ?_
                      refine L.y rfl (Y.add rfl rfl (i64_in (by omega) (by omega))) ?_
                      refine L.y rfl (Y.move rfl) ?_
                      refine L.nil ?_
                      refine E.again (x := k) (k + 1) ⟨by omega, by rw [hv, chkL_ok hx (by exact chkOne_ok c1 c2 c3 (by omega) (by omega) hall (Or.inr ⟨z, hz, by omega⟩))]⟩ (by omega) ⟨rfl, rfl, rfl, rfl, trivial⟩ (fun _ hw => hw.sublist (.cons _ (.cons _ .slnil)))
                  ·
                    refine U.y rfl (Y.move rfl) ?_
                    refine U.pass rfl rfl (by nofun) ?_
                    refine U.pass rfl rfl (by nofun) ?_
                    refine U.pass rfl rfl (by nofun) ?_
                    refine U.pass rfl rfl (by nofun) ?_
                    refine U.pass rfl rfl (by nofun) ?_
                    refine U.pass rfl rfl (by nofun) ?_
                    refine U.pass rfl rfl (by nofun) ?_
                    refine U.pass rfl rfl (by nofun) ?_
                    refine U.pass rfl rfl (by nofun) ?_
                    refine U.y rfl (Y.pickF rfl rfl) ?_
                    refine U.nil ?_
                    refine E.thenN ?_
                    refine W.condF rfl ?_
                    refine W.skip ?_
                    refine E.blockN ?_
                    refine E.thenN ?_
                    refine W.region ?_
                    refine L.y rfl (Y.add rfl rfl (i64_in (by omega) (by omega))) ?_
                    refine L.y rfl (Y.move rfl) ?_
                    refine L.nil ?_
                    refine E.again (x := k) (k + 1) ⟨by omega, by rw [hv, chkL_ok hx (by exact chkOne_ok c1 c2 c3 (by omega) (by omega) hall (Or.inl (by omega)))]⟩ (by omega) ⟨rfl, rfl, rfl, rfl, trivial⟩ (fun _ hw => hw.sublist (.cons _ (.cons _ .slnil)))
    ·
      refine L.nil ?_
      refine E.thenN ?_
      refine W.seq ?_
      refine W.condF rfl ?_
      refine W.exit ?_
      refine E.thenX ?_
      refine E.thenX ?_
      refine E.blockX ?_
      refine E.thenN ?_
      refine W.seq ?_
      refine W.region ?_
      refine L.y rfl (Y.assign rfl) ?_
      refine L.nil ?_
      refine E.thenN ?_
      refine W.ret ?_
      refine E.ret1 rfl rfl (fun w hw => ?_)
      refine ⟨_, _, rfl, ?_, hw.sublist (List.nil_sublist _)⟩
      rw [hv, List.drop_eq_nil_of_le (by omega)]
      rfl
set_option maxRecDepth 100000 in
theorem hopeErr (l : List TryV) (v : Value) (w : World) (hT : Tries w v l) : Does Try.prog 39 [v] w fun u _ => u = .int .i64 (chk l) := by
  have hll : (l.map TryV.row).length = l.length := List.length_map _
  have hle := hT.1.le
  unfold maxLen at hle
  refine body (n := 80) Try.func39 rfl rfl rfl (Cls.refl w) ?_
  refine W.seq ?_
  refine W.region ?_
  refine L.y rfl (Y.assign rfl) ?_
  refine L.nil ?_
  refine E.thenN ?_
  refine W.seq ?_
  refine W.seq ?_
  refine W.region ?_
  refine L.y rfl (Y.move rfl) ?_
  refine L.y rfl (Y.lenA Try.underlying52 rfl (fun w' hw => hT.1.cls0 hw)) ?_
  refine L.split rfl (Y.gtr rfl rfl) (fun hbig => ?_) (fun hbig => ?_)
  ·
    refine L.nil ?_
    refine E.thenN ?_
    refine W.condT rfl ?_
    refine W.seq ?_
    refine W.region ?_
    refine L.y rfl (Y.assign rfl) ?_
    refine L.nil ?_
    refine E.thenN ?_
    refine W.ret ?_
    refine E.thenR ?_
    refine E.ret1 rfl rfl (fun w hw => ?_)
    refine ⟨_, _, rfl, ?_, hw.sublist (List.nil_sublist _)⟩
    rw [chk_big (by omega)]
  ·
    refine L.nil ?_
    refine E.thenN ?_
    refine W.condF rfl ?_
    refine W.skip ?_
    refine E.thenN ?_
    refine W.seq ?_
    refine W.seq ?_
    refine W.region ?_
    refine L.y rfl (Y.move rfl) ?_
    refine L.y rfl (Y.lenA Try.underlying52 rfl (fun w' hw => hT.1.cls0 hw)) ?_
    refine L.y rfl (Y.move rfl) ?_
    refine L.nil ?_
    refine E.thenN ?_
    refine W.block ?_
    refine W.loop (X := Nat) (fun k => [(0, v), (12, v), (13, .int .i64 ((l.map TryV.row).length : Nat)), (14, .int .i64 (k : Nat))]) (fun k => Cls w [] []) (fun k => k ≤ l.length ∧ chk l = chkL (prevOf l k) (l.drop k)) (fun k => l.length - k) 0 ⟨Nat.zero_le _, by rw [chk_small (by omega)]; rfl⟩ ⟨rfl, rfl, rfl, rfl, trivial⟩ (fun _ hw => hw) ?_
    rintro k ⟨hk, hv⟩
    refine W.seq ?_
    refine W.region ?_
    refine L.split rfl (Y.lss rfl rfl) (fun ha => ?_) (fun ha => ?_)
    ·
      refine L.nil ?_
      refine E.thenN ?_
      refine W.seq ?_
      refine W.condT rfl ?_
      refine W.skip ?_
      refine E.thenN ?_
      refine W.seq ?_
      refine W.block ?_
      refine W.seq ?_
      refine W.region ?_
      refine L.y rfl (Y.move rfl) ?_
      obtain ⟨x, hx⟩ := have_get (l := l) (k := k) (by omega)
      have hR := (hT.2 x (List.mem_of_getElem? hx)).1
      have hW := (hT.2 x (List.mem_of_getElem? hx)).2
      have hrl := ints_length x.rs
      have hwl := ints_length x.ws
      refine L.y rfl (Y.indexE Try.underlying52 sz158 rfl rfl (fun w' hw => hT.1.cls0 hw) (by omega) (by omega)) ?_
      refine L.y rfl (Y.loadEN ag158 sz158 rfl (fun w' hw => hT.1.cls0 hw) (map_get hx) rfl) ?_
      refine L.alloc rfl ze158 ?_
      intro b4
      refine L.y rfl (Y.assign rfl) ?_
      refine L.store (i := 0) sz158 rfl rfl rfl rfl (row_one hR hW) rfl (by decide) ?_
      refine L.nil ?_
      refine E.thenN ?_
      refine W.seq ?_
      refine W.seq ?_
      refine W.region ?_
      refine L.y rfl (Y.fieldP fd158_0 rfl) ?_
      refine L.y rfl (Y.loadP (i := 0) ag3 rfl rfl rfl) ?_
      refine L.split rfl (Y.lss rfl rfl) (fun c1 => ?_) (fun c1 => ?_)
      ·
        refine L.y rfl (Y.move rfl) ?_
        refine L.pass rfl rfl (by nofun) ?_
        refine L.pass rfl rfl (by nofun) ?_
        refine L.pass rfl rfl (by nofun) ?_
        refine L.pass rfl rfl (by nofun) ?_
        refine L.pass rfl rfl (by nofun) ?_
        refine L.y rfl (Y.pickT rfl rfl) ?_
        refine L.y rfl (Y.move rfl) ?_
        refine L.pass rfl rfl (by nofun) ?_
        refine L.pass rfl rfl (by nofun) ?_
        refine L.pass rfl rfl (by nofun) ?_
        refine L.y rfl (Y.pickT rfl rfl) ?_
        refine L.nil ?_
        refine E.thenN ?_
        refine W.condT rfl ?_
        refine W.seq ?_
        refine W.region ?_
        refine L.y rfl (Y.assign rfl) ?_
        refine L.nil ?_
        refine E.thenN ?_
        refine W.ret ?_
        refine E.thenR ?_
        refine E.blockR ?_
        refine E.thenR ?_
        refine E.thenR ?_
        refine E.blockR ?_
        refine E.thenR ?_
        refine E.ret1 rfl rfl (fun w hw => ?_)
        refine ⟨_, _, rfl, ?_, hw.sublist (List.nil_sublist _)⟩
        rw [hv, chkL_err hx (chkOne_arg (Or.inl c1)) (by decide)]
      ·
        refine L.y rfl (Y.move rfl) ?_
        refine L.take rfl ?_
        refine L.y rfl (Y.fieldP fd158_0 rfl) ?_
        refine L.take rfl ?_
        refine L.y rfl (Y.loadP (i := 0) ag3 rfl rfl rfl) ?_
        refine L.take rfl ?_
        refine L.y rfl (Y.fieldP fd158_1 rfl) ?_
        refine L.take rfl ?_
        refine L.y rfl (Y.loadP (i := 0) ag3 rfl rfl rfl) ?_
        refine L.take rfl ?_
        refine L.split rfl (Y.geq rfl rfl) (fun c2 => ?_) (fun c2 => ?_)
        ·
          refine L.y rfl (Y.pickF rfl rfl) ?_
          refine L.y rfl (Y.move rfl) ?_
          refine L.pass rfl rfl (by nofun) ?_
          refine L.pass rfl rfl (by nofun) ?_
          refine L.pass rfl rfl (by nofun) ?_
          refine L.y rfl (Y.pickT rfl rfl) ?_
          refine L.nil ?_
          refine E.thenN ?_
          refine W.condT rfl ?_
          refine W.seq ?_
          refine W.region ?_
          refine L.y rfl (Y.assign rfl) ?_
          refine L.nil ?_
          refine E.thenN ?_
          refine W.ret ?_
          refine E.thenR ?_
          refine E.blockR ?_
          refine E.thenR ?_
          refine E.thenR ?_
          refine E.blockR ?_
          refine E.thenR ?_
          refine E.ret1 rfl rfl (fun w hw => ?_)
          refine ⟨_, _, rfl, ?_, hw.sublist (List.nil_sublist _)⟩
          rw [hv, chkL_err hx (chkOne_arg (Or.inr (Or.inl c2))) (by decide)]
        ·
          refine L.y rfl (Y.pickF rfl rfl) ?_
          refine L.y rfl (Y.move rfl) ?_
          refine L.take rfl ?_
          refine L.y rfl (Y.fieldP fd158_1 rfl) ?_
          refine L.take rfl ?_
          refine L.y rfl (Y.loadP (i := 0) ag3 rfl rfl rfl) ?_
          refine L.take rfl ?_
          refine L.split rfl (Y.gtr rfl rfl) (fun c3 => ?_) (fun c3 => ?_)
          ·
            refine L.y rfl (Y.pickF rfl rfl) ?_
            refine L.nil ?_
            refine E.thenN ?_
            refine W.condT rfl ?_
            refine W.seq ?_
            refine W.region ?_
            refine L.y rfl (Y.assign rfl) ?_
            refine L.nil ?_
            refine E.thenN ?_
            refine W.ret ?_
            refine E.thenR ?_
            refine E.blockR ?_
            refine E.thenR ?_
            refine E.thenR ?_
            refine E.blockR ?_
            refine E.thenR ?_
            refine E.ret1 rfl rfl (fun w hw => ?_)
            refine ⟨_, _, rfl, ?_, hw.sublist (List.nil_sublist _)⟩
            rw [hv, chkL_err hx (chkOne_arg (Or.inr (Or.inr c3))) (by decide)]
          ·
            refine L.y rfl (Y.pickF rfl rfl) ?_
            refine L.nil ?_
            refine E.thenN ?_
            refine W.condF rfl ?_
            refine W.skip ?_
            refine E.thenN ?_
            refine W.seq ?_
            refine W.seq ?_
            refine W.region ?_
            refine L.y rfl (Y.fieldP fd158_2 rfl) ?_
            refine L.y rfl (Y.loadP (i := 0) ag24 rfl rfl rfl) ?_
            refine L.y rfl (Y.lenA Try.underlying24 rfl (fun w' hw => hR.cls0 hw)) ?_
            refine L.y rfl (Y.fieldP fd158_3 rfl) ?_
            refine L.y rfl (Y.loadP (i := 0) ag24 rfl rfl rfl) ?_
            refine L.y rfl (Y.lenA Try.underlying24 rfl (fun w' hw => hW.cls0 hw)) ?_
            refine L.y rfl (Y.max2 rfl rfl) ?_
            refine L.split rfl (Y.gtr rfl rfl) (fun c4 => ?_) (fun c4 => ?_)
            ·
              refine L.nil ?_
              refine E.thenN ?_
              refine W.condT rfl ?_
              refine W.seq ?_
              refine W.region ?_
              refine L.y rfl (Y.assign rfl) ?_
              refine L.nil ?_
              refine E.thenN ?_
              refine W.ret ?_
              refine E.thenR ?_
              refine E.blockR ?_
              refine E.thenR ?_
              refine E.thenR ?_
              refine E.blockR ?_
              refine E.thenR ?_
              refine E.ret1 rfl rfl (fun w hw => ?_)
              refine ⟨_, _, rfl, ?_, hw.sublist (List.nil_sublist _)⟩
              rw [hv, chkL_err hx (chkOne_large c1 c2 c3 (by omega)) (by decide)]
            ·
              refine L.nil ?_
              refine E.thenN ?_
              refine W.condF rfl ?_
              refine W.skip ?_
              refine E.thenN ?_
              refine W.seq ?_
              refine W.seq ?_
              refine W.region ?_
              refine L.y rfl (Y.fieldP fd158_2 rfl) ?_
              refine L.y rfl (Y.loadP (i := 0) ag24 rfl rfl rfl) ?_
              refine L.y rfl (Y.fieldP fd158_3 rfl) ?_
              refine L.y rfl (Y.loadP (i := 0) ag24 rfl rfl rfl) ?_
              refine L.lit (xs := [.tmp 43, .tmp 45]) rfl Try.underlying25 el24 rfl rfl rfl rfl (by simp [hR.cells1, hW.cells1]) ?_
              intro b46
              refine L.y rfl (Y.lenA Try.underlying25 rfl (fun w hw => As.at_ (hw.get (i := 0) rfl))) ?_
              refine L.y rfl (Y.move rfl) ?_
              refine L.nil ?_
              refine E.thenN ?_
              refine W.block ?_
              refine W.loop (X := Nat) (fun p => [(0, v), (12, v), (13, .int .i64 ((l.map TryV.row).length : Nat)), (14, .int .i64 (k : Nat)), (3, .int .i64 (k : Nat)), (4, pt b4 0), (46, sv b46 2), (47, .int .i64 2), (48, .int .i64 (p : Nat))]) (fun p => Cls w [] [.sl (sv b46 2) 24 1 (vsl [x.rv, x.wv]), .obj b4 x.row 158]) (fun p => p ≤ 2 ∧ ∀ y ∈ ([x.rs, x.ws].take p).flatten, badKey y = false) (fun p => 2 - p) 0 ⟨Nat.zero_le _, by simp⟩ ⟨rfl, rfl, rfl, rfl, rfl, rfl, rfl, rfl, rfl, trivial⟩ (fun _ hw => hw) ?_
              rintro p ⟨hp, hallp⟩
              refine W.seq ?_
              refine W.region ?_
              refine L.split rfl (Y.lss rfl rfl) (fun hp2 => ?_) (fun hp2 => ?_)
              ·
                refine L.nil ?_
                refine E.thenN ?_
                refine W.seq ?_
                refine W.condT rfl ?_
                refine W.skip ?_
                refine E.thenN ?_
                refine W.seq ?_
                refine W.block ?_
                refine W.seq ?_
                refine W.region ?_
                obtain ⟨u, hu⟩ := have_get (l := [x.rv, x.wv]) (k := p) (by simp; omega)
                obtain ⟨ys, hys⟩ := have_get (l := [x.rs, x.ws]) (k := p) (by simp; omega)
                have hAu := two_at hR hW p u ys hu hys
                have hyl := ints_length ys
                have hyle := hAu.le
                unfold maxLen at hyle
                refine L.y rfl (Y.indexE Try.underlying25 sz24 rfl rfl (fun w hw => As.at_ (hw.get (i := 0) rfl)) (by omega) (by simp [vsl]; omega)) ?_
                refine L.y rfl (Y.loadE1 ag24 rfl (fun w hw => As.at_ (hw.get (i := 0) rfl)) (vsl_get hu)) ?_
                refine L.y rfl (Y.assign rfl) ?_
                refine L.nil ?_
                refine E.thenN ?_
                refine W.seq ?_
                refine W.region ?_
                refine L.y rfl (Y.move rfl) ?_
                refine L.y rfl (Y.lenA Try.underlying24 rfl (fun w' hw => hAu.cls0 hw)) ?_
                refine L.y rfl (Y.move rfl) ?_
                refine L.nil ?_
                refine E.thenN ?_
                refine W.block ?_
                refine W.loop (X := Nat) (fun q => [(0, v), (12, v), (13, .int .i64 ((l.map TryV.row).length : Nat)), (14, .int .i64 (k : Nat)), (3, .int .i64 (k : Nat)), (4, pt b4 0), (46, sv b46 2), (47, .int .i64 2), (48, .int .i64 (p : Nat)), (52, u), (53, .int .i64 ((ints ys).length : Nat)), (54, .int .i64 (q : Nat))]) (fun q => Cls w [] [.sl (sv b46 2) 24 1 (vsl [x.rv, x.wv]), .obj b4 x.row 158]) (fun q => q ≤ ys.length ∧ ∀ y ∈ ys.take q, badKey y = false) (fun q => ys.length - q) 0 ⟨Nat.zero_le _, by simp⟩ ⟨rfl, rfl, rfl, rfl, rfl, rfl, rfl, rfl, rfl, rfl, rfl, rfl, trivial⟩ (fun _ hw => hw) ?_
                rintro q ⟨hq, hally⟩
                refine W.seq ?_
                refine W.region ?_
                refine L.split rfl (Y.lss rfl rfl) (fun hb => ?_) (fun hb => ?_)
                ·
                  refine L.nil ?_
                  refine E.thenN ?_
                  refine W.seq ?_
                  refine W.condT rfl ?_
                  refine W.skip ?_
                  refine E.thenN ?_
                  refine W.seq ?_
                  refine W.block ?_
                  refine W.seq ?_
                  refine W.region ?_
                  obtain ⟨y, hy⟩ := have_get (l := ys) (k := q) (by omega)
                  refine L.y rfl (Y.indexE Try.underlying24 sz3 rfl rfl (fun w' hw => hAu.cls0 hw) (by omega) (by omega)) ?_
                  refine L.y rfl (Y.loadE1 ag3 rfl (fun w' hw => hAu.cls0 hw) (ints_get hy)) ?_
                  refine L.y rfl (Y.assign rfl) ?_
                  refine L.nil ?_
                  refine E.thenN ?_
                  refine W.seq ?_
                  refine W.region ?_
                  refine L.y rfl (Y.move rfl) ?_
                  refine L.split rfl (Y.lss rfl rfl) (fun d1 => ?_) (fun d1 => ?_)
                  ·
                    refine L.y rfl (Y.move rfl) ?_
                    refine L.pass rfl rfl (by nofun) ?_
                    refine L.pass rfl rfl (by nofun) ?_
                    refine L.y rfl (Y.pickT rfl rfl) ?_
                    refine L.nil ?_
                    refine E.thenN ?_
                    refine W.condT rfl ?_
                    refine W.seq ?_
                    refine W.region ?_
                    refine L.y rfl (Y.assign rfl) ?_
                    refine L.nil ?_
                    refine E.thenN ?_
                    refine W.ret ?_
                    refine E.blockR ?_
                    refine E.thenR ?_
                    refine E.thenR ?_
                    refine E.blockR ?_
                    refine E.blockR ?_
                    refine E.thenR ?_
                    refine E.thenR ?_
                    refine E.blockR ?_
                    refine E.thenR ?_
                    refine E.blockR ?_
                    refine E.thenR ?_
                    refine E.thenR ?_
                    refine E.blockR ?_
                    refine E.thenR ?_
                    refine E.ret1 rfl rfl (fun w hw => ?_)
                    refine ⟨_, _, rfl, ?_, hw.sublist (List.nil_sublist _)⟩
                    rw [hv, chkL_err hx (chkOne_key c1 c2 c3 (by omega) (by omega) (mem_two hys (List.mem_of_getElem? hy)) (badKey_yes (Or.inl d1))) (by decide)]
                  ·
                    refine L.y rfl (Y.move rfl) ?_
                    refine L.take rfl ?_
                    refine L.y rfl (Y.move rfl) ?_
                    refine L.take rfl ?_
                    refine L.split rfl (Y.gtr rfl rfl) (fun d2 => ?_) (fun d2 => ?_)
                    ·
                      refine L.y rfl (Y.pickF rfl rfl) ?_
                      refine L.nil ?_
                      refine E.thenN ?_
                      refine W.condT rfl ?_
                      refine W.seq ?_
                      refine W.region ?_
                      refine L.y rfl (Y.assign rfl) ?_
                      refine L.nil ?_
                      refine E.thenN ?_
                      refine W.ret ?_
                      refine E.blockR ?_
                      refine E.thenR ?_
                      refine E.thenR ?_
                      refine E.blockR ?_
                      refine E.blockR ?_
                      refine E.thenR ?_
                      refine E.thenR ?_
                      refine E.blockR ?_
                      refine E.thenR ?_
                      refine E.blockR ?_
                      refine E.thenR ?_
                      refine E.thenR ?_
                      refine E.blockR ?_
                      refine E.thenR ?_
                      refine E.ret1 rfl rfl (fun w hw => ?_)
                      refine ⟨_, _, rfl, ?_, hw.sublist (List.nil_sublist _)⟩
                      rw [hv, chkL_err hx (chkOne_key c1 c2 c3 (by omega) (by omega) (mem_two hys (List.mem_of_getElem? hy)) (badKey_yes (Or.inr (by omega)))) (by decide)]
                    ·
                      refine L.y rfl (Y.pickF rfl rfl) ?_
                      refine L.nil ?_
                      refine E.thenN ?_
                      refine W.condF rfl ?_
                      refine W.skip ?_
                      refine E.blockN ?_
                      refine E.thenN ?_
                      refine W.region ?_
                      refine L.y rfl (Y.add rfl rfl (i64_in (by omega) (by omega))) ?_
                      refine L.y rfl (Y.move rfl) ?_
                      refine L.nil ?_
                      refine E.again (x := q) (q + 1) ⟨by omega, all_step hy hally (badKey_no (by omega) (by omega))⟩ (by omega) ⟨rfl, rfl, rfl, rfl, rfl, rfl, rfl, rfl, rfl, rfl, rfl, rfl, trivial⟩ (fun _ hw => hw)
                ·
                  refine L.nil ?_
                  refine E.thenN ?_
                  refine W.seq ?_
                  refine W.condF rfl ?_
                  refine W.exit ?_
                  refine E.thenX ?_
                  refine E.thenX ?_
                  refine E.blockX ?_
                  refine E.blockN ?_
                  refine E.thenN ?_
                  refine W.region ?_
                  refine L.y rfl (Y.add rfl rfl (i64_in (by omega) (by omega))) ?_
                  refine L.y rfl (Y.move rfl) ?_
                  refine L.nil ?_
                  refine E.again (x := p) (p + 1) ⟨by omega, flat_step hys hallp (all_all hally (by omega))⟩ (by omega) ⟨rfl, rfl, rfl, rfl, rfl, rfl, rfl, rfl, rfl, trivial⟩ (fun _ hw => hw)
              ·
                have hall := flat_two hallp (by omega)
                refine L.nil ?_
                refine E.thenN ?_
                refine W.seq ?_
                refine W.condF rfl ?_
                refine W.exit ?_
                refine E.thenX ?_
                refine E.thenX ?_
                refine E.blockX ?_
                refine E.thenN ?_
                refine W.seq ?_
                refine W.quiet mixed (by kernel_rfl) (fun _ hw => hw.drew) ?_
                refine U.y rfl (Y.move rfl) ?_
                refine U.split rfl (Y.gtr rfl rfl) (fun e1 => ?_) (fun e1 => ?_)
                ·
                  refine U.y rfl (Y.move rfl) ?_
                  refine U.take rfl ?_
                  refine U.y rfl (Y.move rfl) ?_
                  refine U.take rfl ?_
                  refine U.y rfl (Y.move rfl) ?_
                  refine U.take rfl ?_
                  refine U.y rfl (Y.sub rfl rfl (i64_in (by omega) (by omega))) ?_
                  refine U.take rfl ?_
                  obtain ⟨z, hz⟩ := have_get (l := l) (k := k - 1) (by omega)
                  have hzx : l[((k : Int) - 1).toNat]? = some z := by rw [show ((k : Int) - 1).toNat = k - 1 by omega]; exact hz
                  refine U.y rfl (Y.indexE Try.underlying52 sz158 rfl rfl (fun w' hw => hT.1.cls0 hw) (by omega) (by omega)) ?_
                  refine U.take rfl ?_
                  refine U.y rfl (Y.fieldE fd158_1 rfl) ?_
                  refine U.take rfl ?_
                  refine U.y rfl (Y.loadE ag3 rfl (fun w' hw => hT.1.cls0 hw) (map_get hzx) rfl) ?_
                  refine U.take rfl ?_
                  refine U.y rfl (Y.fieldP fd158_1 rfl) ?_
                  refine U.take rfl ?_
                  refine U.y rfl (Y.loadP (i := 1) ag3 rfl rfl rfl) ?_
                  refine U.take rfl ?_
                  refine U.split rfl (Y.geq rfl rfl) (fun e2 => ?_) (fun e2 => ?_)
                  ·
                    refine U.y rfl (Y.pickT rfl rfl) ?_
                    refine U.nil ?_
                    refine E.thenN ?_
                    refine W.condT rfl ?_
                    refine W.seq ?_
                    refine W.region ?_
                    refine L.y rfl (Y.assign rfl) ?_
                    refine L.nil ?_
                    refine E.thenN ?_
                    refine W.ret ?_
                    refine E.blockR ?_
                    refine E.thenR ?_
                    refine E.thenR ?_
                    refine E.blockR ?_
                    refine E.thenR ?_
                    refine E.ret1 rfl rfl (fun w hw => ?_)
                    refine ⟨_, _, rfl, ?_, hw.sublist (List.nil_sublist _)⟩
                    rw [hv, chkL_err hx (chkOne_form c1 c2 c3 (by omega) (by omega) hall (by omega) hz e2) (by decide)]
                  ·
                    refine U.y rfl (Y.pickT rfl rfl) ?_
                    refine U.nil ?_
                    refine E.thenN ?_
                    refine W.condF rfl ?_
                    refine W.skip ?_
                    refine E.blockN ?_
                    refine E.thenN ?_
                    refine W.region ?_
                    refine L.y rfl (Y.add rfl rfl (i64_in (by omega) (by omega))) ?_
                    refine L.y rfl (Y.move rfl) ?_
                    refine L.nil ?_
                    refine E.again (x := k) (k + 1) ⟨by omega, by rw [hv, chkL_ok hx (by exact chkOne_ok c1 c2 c3 (by omega) (by omega) hall (Or.inr ⟨z, hz, by omega⟩))]⟩ (by omega) ⟨rfl, rfl, rfl, rfl, trivial⟩ (fun _ hw => hw.sublist (.cons _ (.cons _ .slnil)))
                ·
                  refine U.y rfl (Y.move rfl) ?_
                  refine U.pass rfl rfl (by nofun) ?_
                  refine U.pass rfl rfl (by nofun) ?_
                  refine U.pass rfl rfl (by nofun) ?_
                  refine U.pass rfl rfl (by nofun) ?_
                  refine U.pass rfl rfl (by nofun) ?_
                  refine U.pass rfl rfl (by nofun) ?_
                  refine U.pass rfl rfl (by nofun) ?_
                  refine U.pass rfl rfl (by nofun) ?_
                  refine U.pass rfl rfl (by nofun) ?_
                  refine U.y rfl (Y.pickF rfl rfl) ?_
                  refine U.nil ?_
                  refine E.thenN ?_
                  refine W.condF rfl ?_
                  refine W.skip ?_
                  refine E.blockN ?_
                  refine E.thenN ?_
                  refine W.region ?_
                  refine L.y rfl (Y.add rfl rfl (i64_in (by omega) (by omega))) ?_
                  refine L.y rfl (Y.move rfl) ?_
                  refine L.nil ?_
                  refine E.again (x := k) (k + 1) ⟨by omega, by rw [hv, chkL_ok hx (by exact chkOne_ok c1 c2 c3 (by omega) (by omega) hall (Or.inl (by omega)))]⟩ (by omega) ⟨rfl, rfl, rfl, rfl, trivial⟩ (fun _ hw => hw.sublist (.cons _ (.cons _ .slnil)))
    ·
      refine L.nil ?_
      refine E.thenN ?_
      refine W.seq ?_
      refine W.condF rfl ?_
      refine W.exit ?_
      refine E.thenX ?_
      refine E.thenX ?_
      refine E.blockX ?_
      refine E.thenN ?_
      refine W.seq ?_
      refine W.region ?_
      refine L.y rfl (Y.assign rfl) ?_
      refine L.nil ?_
      refine E.thenN ?_
      refine W.ret ?_
      refine E.ret1 rfl rfl (fun w hw => ?_)
      refine ⟨_, _, rfl, ?_, hw.sublist (List.nil_sublist _)⟩
      rw [hv, List.drop_eq_nil_of_le (by omega)]
      rfl
set_option maxRecDepth 100000 in
theorem meet1 (z : Int) (b : Nat) (u : Value) (ys : List Int) (w : World) (hc : w.cell? ⟨b, 0, none⟩ = some u) (hA : At w u 1 (ints ys)) : Does Try.prog 144 [.int .i64 z, pt b 0] w fun r _ => r = .bool (decide (z ∈ ys)) := by
  refine body (n := 7) Try.func144 rfl rfl rfl (Cls.refl w) ?_
  refine W.seq ?_
  refine W.region ?_
  refine L.y rfl (Y.assign rfl) ?_
  refine L.nil ?_
  refine E.thenN ?_
  refine W.seq ?_
  refine W.region ?_
  refine L.y rfl (Y.load1 ag24 rfl (fun w' hw => hw.oldCell hc)) ?_
  refine L.y rfl (Y.move rfl) ?_
  refine L.y rfl (Y.does en134 rfl (fun w' hw => contains_int ys u z w' (hA.cls0 hw))) ?_
  refine L.y rfl (Y.assign rfl) ?_
  refine L.nil ?_
  refine E.thenN ?_
  refine W.ret ?_
  refine E.ret1 rfl rfl (fun w hw => ?_)
  exact ⟨_, _, rfl, rfl, hw⟩
set_option maxRecDepth 100000 in
theorem meet (xs ys : List Int) (v u : Value) (w : World) (hA : At w v 1 (ints xs)) (hB : At w u 1 (ints ys)) : Does Try.prog 101 [v, u] w fun r _ => r = .bool (inter xs ys) := by
  refine body (n := 8) Try.func101 rfl rfl rfl (Cls.refl w) ?_
  refine W.seq ?_
  refine W.region ?_
  refine L.box rfl rfl ?_
  intro b3
  refine L.y rfl (Y.assign rfl) ?_
  refine L.nil ?_
  refine E.thenN ?_
  refine W.seq ?_
  refine W.region ?_
  refine L.y rfl (Y.move rfl) ?_
  refine L.y rfl (Y.func (xs := [.tmp 3]) (f := 144) rfl) ?_
  refine L.y rfl (Y.does en78 rfl (fun w' hw => containsfunc_int xs v 144 [pt b3 0] (fun z => decide (z ∈ ys)) w' (hA.cls0 hw) en144 (fun w2 hw2 z _ => meet1 z b3 u ys w2 ((hw.call hw2).cell (i := 0) rfl (box_one hB)) (hB.cls0 (hw.call hw2))))) ?_
  refine L.y rfl (Y.assign rfl) ?_
  refine L.nil ?_
  refine E.thenN ?_
  refine W.ret ?_
  refine E.ret1 rfl rfl (fun w hw => ?_)
  exact ⟨_, _, rfl, rfl, hw.sublist (List.nil_sublist _)⟩
set_option maxRecDepth 100000 in
theorem both (xs ys : List Int) (v u : Value) (w : World) (hA : At w v 1 (ints xs)) (hB : At w u 1 (ints ys)) : Does Try.prog 103 [v, u] w fun r _ => r = .bool (inter xs ys) := by
  have hil := ints_length xs
  have hle := hA.le
  unfold maxLen at hle
  refine body (n := 17) Try.func103 rfl rfl rfl (Cls.refl w) ?_
  refine W.seq ?_
  refine W.region ?_
  refine L.y rfl (Y.assign rfl) ?_
  refine L.nil ?_
  refine E.thenN ?_
  refine W.seq ?_
  refine W.seq ?_
  refine W.region ?_
  refine L.y rfl (Y.move rfl) ?_
  refine L.y rfl (Y.lenA Try.underlying24 rfl (fun w' hw => hA.cls0 hw)) ?_
  refine L.y rfl (Y.move rfl) ?_
  refine L.nil ?_
  refine E.thenN ?_
  refine W.block ?_
  refine W.loop (X := Nat) (fun k => [(0, v), (1, u), (7, v), (8, .int .i64 ((ints xs).length : Nat)), (9, .int .i64 (k : Nat))]) (fun k => Cls w [] []) (fun k => k ≤ xs.length ∧ inter xs ys = inter (xs.drop k) ys) (fun k => xs.length - k) 0 ⟨Nat.zero_le _, rfl⟩ ⟨rfl, rfl, rfl, rfl, rfl, trivial⟩ (fun _ hw => hw) ?_
  rintro k ⟨hk, hv⟩
  refine W.seq ?_
  refine W.region ?_
  refine L.split rfl (Y.lss rfl rfl) (fun ha => ?_) (fun ha => ?_)
  ·
    refine L.nil ?_
    refine E.thenN ?_
    refine W.seq ?_
    refine W.condT rfl ?_
    refine W.skip ?_
    refine E.thenN ?_
    refine W.seq ?_
    refine W.block ?_
    refine W.seq ?_
    refine W.region ?_
    obtain ⟨x, hx⟩ := have_get (l := xs) (k := k) (by omega)
    refine L.y rfl (Y.indexE Try.underlying24 sz3 rfl rfl (fun w' hw => hA.cls0 hw) (by omega) (by omega)) ?_
    refine L.y rfl (Y.loadE1 ag3 rfl (fun w' hw => hA.cls0 hw) (ints_get hx)) ?_
    refine L.y rfl (Y.assign rfl) ?_
    refine L.nil ?_
    refine E.thenN ?_
    refine W.seq ?_
    refine W.region ?_
    refine L.y rfl (Y.move rfl) ?_
    refine L.y rfl (Y.move rfl) ?_
    refine L.splitB rfl (Y.does en134 rfl (fun w' hw => contains_int ys u x w' (hB.cls0 hw))) (fun hb => ?_) (fun hb => ?_)
    ·
      refine L.nil ?_
      refine E.thenN ?_
      refine W.condT rfl ?_
      refine W.seq ?_
      refine W.region ?_
      refine L.y rfl (Y.assign rfl) ?_
      refine L.nil ?_
      refine E.thenN ?_
      refine W.ret ?_
      refine E.blockR ?_
      refine E.thenR ?_
      refine E.thenR ?_
      refine E.blockR ?_
      refine E.thenR ?_
      refine E.ret1 rfl rfl (fun w hw => ?_)
      refine ⟨_, _, rfl, ?_, hw⟩
      rw [hv, inter_step hx, hb, Bool.true_or]
    ·
      refine L.nil ?_
      refine E.thenN ?_
      refine W.condF rfl ?_
      refine W.skip ?_
      refine E.blockN ?_
      refine E.thenN ?_
      refine W.region ?_
      refine L.y rfl (Y.add rfl rfl (i64_in (by omega) (by omega))) ?_
      refine L.y rfl (Y.move rfl) ?_
      refine L.nil ?_
      refine E.again (x := k) (k + 1) ⟨by omega, by rw [hv, inter_step hx, hb, Bool.false_or]⟩ (by omega) ⟨rfl, rfl, rfl, rfl, rfl, trivial⟩ (fun _ hw => hw)
  ·
    refine L.nil ?_
    refine E.thenN ?_
    refine W.seq ?_
    refine W.condF rfl ?_
    refine W.exit ?_
    refine E.thenX ?_
    refine E.thenX ?_
    refine E.blockX ?_
    refine E.thenN ?_
    refine W.seq ?_
    refine W.region ?_
    refine L.y rfl (Y.assign rfl) ?_
    refine L.nil ?_
    refine E.thenN ?_
    refine W.ret ?_
    refine E.ret1 rfl rfl (fun w hw => ?_)
    refine ⟨_, _, rfl, ?_, hw⟩
    rw [hv, List.drop_eq_nil_of_le (by omega)]
    rfl
set_option maxRecDepth 100000 in
theorem judge (l : List TryV) (v : Value) (w : World) (hT : Tries w v l) : Does Try.prog 40 [v] w fun r m => ∃ j, r = .tuple #[j, .int .i64 (chk l)] ∧ m = [.sl j 4 1 (bools (if chk l = 0 then judgeN l l.length else []))] := by
  have hll : (l.map TryV.row).length = l.length := List.length_map _
  have hle := hT.1.le
  unfold maxLen at hle
  refine body (n := 61) Try.func40 rfl rfl rfl (Cls.refl w) ?_
  refine W.seq ?_
  refine W.region ?_
  refine L.y rfl (Y.assign rfl) ?_
  refine L.y rfl (Y.assign rfl) ?_
  refine L.nil ?_
  refine E.thenN ?_
  refine W.seq ?_
  refine W.seq ?_
  refine W.region ?_
  refine L.y rfl (Y.move rfl) ?_
  refine L.y rfl (Y.does en41 rfl (fun w' hw => check l v w' (hT.cls0 hw))) ?_
  refine L.y rfl (Y.assign rfl) ?_
  refine L.nil ?_
  refine E.thenN ?_
  refine W.seq ?_
  refine W.region ?_
  refine L.y rfl (Y.move rfl) ?_
  refine L.split rfl (Y.neq rfl rfl) (fun herr => ?_) (fun herr => ?_)
  ·
    refine L.nil ?_
    refine E.thenN ?_
    refine W.condT rfl ?_
    refine W.seq ?_
    refine W.region ?_
    refine L.y rfl (Y.move rfl) ?_
    refine L.y rfl (Y.assign rfl) ?_
    refine L.y rfl (Y.assign rfl) ?_
    refine L.nil ?_
    refine E.thenN ?_
    refine W.ret ?_
    refine E.thenR ?_
    refine E.ret2 rfl rfl rfl (fun w hw => ?_)
    exact ⟨_, _, rfl, ⟨_, rfl, by rw [if_neg (by omega)]; rfl⟩, hw.nilSl 4 1⟩
  ·
    refine L.nil ?_
    refine E.thenN ?_
    refine W.condF rfl ?_
    refine W.skip ?_
    refine E.thenN ?_
    refine W.seq ?_
    refine W.region ?_
    refine L.y rfl (Y.move rfl) ?_
    refine L.y rfl (Y.lenA Try.underlying52 rfl (fun w' hw => hT.1.cls0 hw)) ?_
    refine L.make (l := (l.map TryV.row).length) rfl Try.underlying54 el4 ze4 rfl rfl (by have := chk_len (l := l) (by omega); omega) (by decide) ?_
    intro b17
    refine L.y rfl (Y.assign rfl) ?_
    refine L.nil ?_
    refine E.thenN ?_
    refine W.seq ?_
    refine W.seq ?_
    refine W.region ?_
    refine L.y rfl (Y.move rfl) ?_
    refine L.y rfl (Y.lenA Try.underlying52 rfl (fun w' hw => hT.1.cls0 hw)) ?_
    refine L.y rfl (Y.move rfl) ?_
    refine L.nil ?_
    refine E.thenN ?_
    refine W.block ?_
    refine W.loop (X := Nat) (fun k => [(0, v), (5, sv b17 (l.map TryV.row).length), (18, v), (19, .int .i64 ((l.map TryV.row).length : Nat)), (20, .int .i64 (k : Nat))]) (fun k => Cls w [] [.sl (sv b17 (l.map TryV.row).length) 4 1 (bools (judgeN l k ++ List.replicate (l.length - k) false))]) (fun k => k ≤ l.length) (fun k => l.length - k) 0 (Nat.zero_le _) ⟨rfl, rfl, rfl, rfl, rfl, trivial⟩ (fun _ hw => by rw [show judgeN l 0 ++ List.replicate (l.length - 0) false = List.replicate l.length false from by simp [judgeN], bools_replicate, ← hll]; exact hw) ?_
    rintro k hk
    refine W.seq ?_
    refine W.region ?_
    refine L.split rfl (Y.lss rfl rfl) (fun ha => ?_) (fun ha => ?_)
    ·
      refine L.nil ?_
      refine E.thenN ?_
      refine W.seq ?_
      refine W.condT rfl ?_
      refine W.skip ?_
      refine E.thenN ?_
      refine W.seq ?_
      refine W.block ?_
      refine W.seq ?_
      refine W.region ?_
      refine L.y rfl (Y.move rfl) ?_
      obtain ⟨x, hx⟩ := have_get (l := l) (k := k) (by omega)
      have hR := (hT.2 x (List.mem_of_getElem? hx)).1
      have hW := (hT.2 x (List.mem_of_getElem? hx)).2
      have hrl := ints_length x.rs
      have hwl := ints_length x.ws
      refine L.y rfl (Y.indexE Try.underlying52 sz158 rfl rfl (fun w' hw => hT.1.cls0 hw) (by omega) (by omega)) ?_
      refine L.y rfl (Y.loadEN ag158 sz158 rfl (fun w' hw => hT.1.cls0 hw) (map_get hx) rfl) ?_
      refine L.alloc rfl ze158 ?_
      intro b7
      refine L.y rfl (Y.assign rfl) ?_
      refine L.store (i := 0) sz158 rfl rfl rfl rfl (by first | exact row_one hR2 hW2 | exact row_one hR hW) rfl (by decide) ?_
      refine L.nil ?_
      refine E.thenN ?_
      refine W.seq ?_
      refine W.region ?_
      refine L.y rfl (Y.move rfl) ?_
      refine L.y rfl (Y.move rfl) ?_
      have hjl := judgeN_length hk
      refine L.y rfl (Y.indexE Try.underlying54 sz4 rfl rfl (fun w hw => As.at_ (hw.get (i := 1) rfl)) (by omega) (by simp; omega)) ?_
      refine L.storeSl1 (q := 1) sz4 rfl rfl rfl rfl rfl (by simp; omega) (bools_len _) ?_
      refine L.to (D := Cls w [] [.obj b7 x.row 158, .sl (sv b17 (l.map TryV.row).length) 4 1 (bools (judgeN l k ++ [true] ++ List.replicate (l.length - (k + 1)) false))]) (fun _ hw => by rw [← set_mid _ _ false true k hjl, ← bools_set, ← rep_mid _ _ _ (by omega)]; exact hw) ?_
      refine L.nil ?_
      refine E.thenN ?_
      refine W.seq ?_
      refine W.region ?_
      refine L.y rfl (Y.move rfl) ?_
      refine L.y rfl (Y.move rfl) ?_
      refine L.y rfl (Y.cutA Try.underlying52 sz158 rfl rfl (fun w' hw => hT.1.cls0 hw) (by omega) (by omega)) ?_
      refine L.y rfl (Y.lenA Try.underlying52 rfl (fun w' hw => (hT.1.cls0 hw).take k (by omega))) ?_
      refine L.y rfl (Y.move rfl) ?_
      refine L.nil ?_
      refine E.thenN ?_
      refine W.block ?_
      refine W.loop (X := Nat) (fun q => [(0, v), (5, sv b17 (l.map TryV.row).length), (18, v), (19, .int .i64 ((l.map TryV.row).length : Nat)), (20, .int .i64 (k : Nat)), (6, .int .i64 (k : Nat)), (7, pt b7 0), (30, cutv v ((k : Int).toNat)), (31, .int .i64 (((l.map TryV.row).take k).length : Nat)), (32, .int .i64 (q : Nat))]) (fun q => Cls w [] [.obj b7 x.row 158, .sl (sv b17 (l.map TryV.row).length) 4 1 (bools (judgeN l k ++ [!(anyQ l (judgeN l k) x q)] ++ List.replicate (l.length - (k + 1)) false))]) (fun q => q ≤ k) (fun q => k - q) 0 (Nat.zero_le _) ⟨rfl, rfl, rfl, rfl, rfl, rfl, rfl, rfl, rfl, rfl, trivial⟩ (fun _ hw => by rw [anyQ_zero]; exact hw) ?_
      rintro q hq
      have htl : ((l.map TryV.row).take k).length = k := by rw [List.length_take]; omega
      refine W.seq ?_
      refine W.region ?_
      refine L.split rfl (Y.lss rfl rfl) (fun hb => ?_) (fun hb => ?_)
      ·
        refine L.nil ?_
        refine E.thenN ?_
        refine W.seq ?_
        refine W.condT rfl ?_
        refine W.skip ?_
        refine E.thenN ?_
        refine W.seq ?_
        refine W.block ?_
        refine W.seq ?_
        refine W.region ?_
        refine L.y rfl (Y.move rfl) ?_
        obtain ⟨u, hu⟩ := have_get (l := l) (k := q) (by omega)
        obtain ⟨o, ho⟩ := have_get (l := judgeN l k) (k := q) (by omega)
        have hR2 := (hT.2 u (List.mem_of_getElem? hu)).1
        have hW2 := (hT.2 u (List.mem_of_getElem? hu)).2
        have hst := anyQ_step (t := x) hu ho
        refine L.y rfl (Y.indexE Try.underlying52 sz158 rfl rfl (fun w' hw => (hT.1.cls0 hw).take k (by omega)) (by omega) (by simp; omega)) ?_
        refine L.y rfl (Y.loadEN ag158 sz158 rfl (fun w' hw => (hT.1.cls0 hw).take k (by omega)) (take_get (map_get hu) (by omega)) rfl) ?_
        refine L.alloc rfl ze158 ?_
        intro b9
        refine L.y rfl (Y.assign rfl) ?_
        refine L.store (i := 0) sz158 rfl rfl rfl rfl (by first | exact row_one hR2 hW2 | exact row_one hR hW) rfl (by decide) ?_
        refine L.nil ?_
        refine E.thenN ?_
        refine W.seq ?_
        refine W.region ?_
        refine L.y rfl (Y.move rfl) ?_
        refine L.y rfl (Y.move rfl) ?_
        refine L.y rfl (Y.indexE Try.underlying54 sz4 rfl rfl (fun w hw => As.at_ (hw.get (i := 2) rfl)) (by omega) (by simp; omega)) ?_
        refine L.splitB rfl (Y.loadE1 ag4 rfl (fun w hw => As.at_ (hw.get (i := 2) rfl)) (bools_get (get_mid (get_mid ho)))) (fun hc1 => ?_) (fun hc1 => ?_)
        ·
          refine L.y rfl (Y.move rfl) ?_
          refine L.take rfl ?_
          refine L.y rfl (Y.fieldP fd158_1 rfl) ?_
          refine L.take rfl ?_
          refine L.y rfl (Y.loadP (i := 0) ag3 rfl rfl rfl) ?_
          refine L.take rfl ?_
          refine L.y rfl (Y.fieldP fd158_0 rfl) ?_
          refine L.take rfl ?_
          refine L.y rfl (Y.loadP (i := 1) ag3 rfl rfl rfl) ?_
          refine L.take rfl ?_
          refine L.split rfl (Y.gtr rfl rfl) (fun hc2 => ?_) (fun hc2 => ?_)
          ·
            refine L.y rfl (Y.pickT rfl rfl) ?_
            refine L.y rfl (Y.move rfl) ?_
            refine L.take rfl ?_
            refine L.y rfl (Y.fieldP fd158_3 rfl) ?_
            refine L.take rfl ?_
            refine L.y rfl (Y.loadP (i := 0) ag24 rfl rfl rfl) ?_
            refine L.take rfl ?_
            refine L.y rfl (Y.fieldP fd158_2 rfl) ?_
            refine L.take rfl ?_
            refine L.y rfl (Y.loadP (i := 1) ag24 rfl rfl rfl) ?_
            refine L.take rfl ?_
            refine L.splitB rfl (Y.does en101 rfl (fun w' hw => meet u.ws x.rs u.wv x.rv w' (hW2.cls0 hw) (hR.cls0 hw))) (fun hc3 => ?_) (fun hc3 => ?_)
            ·
              refine L.y rfl (Y.pickT rfl rfl) ?_
              refine L.nil ?_
              refine E.thenN ?_
              refine W.condT rfl ?_
              refine W.region ?_
              refine L.y rfl (Y.move rfl) ?_
              refine L.y rfl (Y.move rfl) ?_
              refine L.y rfl (Y.indexE Try.underlying54 sz4 rfl rfl (fun w hw => As.at_ (hw.get (i := 2) rfl)) (by omega) (by simp; omega)) ?_
              refine L.storeSl1 (q := 2) sz4 rfl rfl rfl rfl rfl (by simp; omega) (bools_len _) ?_
              refine L.to (D := Cls w [] [.obj b9 u.row 158, .obj b7 x.row 158, .sl (sv b17 (l.map TryV.row).length) 4 1 (bools (judgeN l k ++ [false] ++ List.replicate (l.length - (k + 1)) false))]) (fun _ hw => by rw [← set_mid _ _ (!(anyQ l (judgeN l k) x q)) false k hjl, ← bools_set]; exact hw) ?_
              refine L.nil ?_
              refine E.blockN ?_
              refine E.thenN ?_
              refine W.region ?_
              refine L.y rfl (Y.add rfl rfl (i64_in (by omega) (by omega))) ?_
              refine L.y rfl (Y.move rfl) ?_
              refine L.nil ?_
              refine E.again (x := q) (q + 1) (by omega) (by omega) ⟨rfl, rfl, rfl, rfl, rfl, rfl, rfl, rfl, rfl, rfl, trivial⟩ (fun w hw => by rw [hst, hc1, clash_yes hc2 hc3] at *; simpa using hw.sublist (.cons _ (List.Sublist.refl _)))
            ·
              refine L.y rfl (Y.pickT rfl rfl) ?_
              refine L.nil ?_
              refine E.thenN ?_
              refine W.condF rfl ?_
              refine W.skip ?_
              refine E.blockN ?_
              refine E.thenN ?_
              refine W.region ?_
              refine L.y rfl (Y.add rfl rfl (i64_in (by omega) (by omega))) ?_
              refine L.y rfl (Y.move rfl) ?_
              refine L.nil ?_
              have hstep : anyQ l (judgeN l k) x (q + 1) = anyQ l (judgeN l k) x q := by rw [hst]; rw [clash_no (Or.inr hc3), Bool.and_false, Bool.or_false]
              refine E.again (x := q) (q + 1) (by omega) (by omega) ⟨rfl, rfl, rfl, rfl, rfl, rfl, rfl, rfl, rfl, rfl, trivial⟩ (fun w hw => by rw [hstep]; exact hw.sublist (.cons _ (List.Sublist.refl _)))
          ·
            refine L.y rfl (Y.pickT rfl rfl) ?_
            refine L.y rfl (Y.move rfl) ?_
            refine L.pass rfl rfl (by nofun) ?_
            refine L.pass rfl rfl (by nofun) ?_
            refine L.pass rfl rfl (by nofun) ?_
            refine L.pass rfl rfl (by nofun) ?_
            refine L.pass rfl rfl (by nofun) ?_
            refine L.y rfl (Y.pickF rfl rfl) ?_
            refine L.nil ?_
            refine E.thenN ?_
            refine W.condF rfl ?_
            refine W.skip ?_
            refine E.blockN ?_
            refine E.thenN ?_
            refine W.region ?_
            refine L.y rfl (Y.add rfl rfl (i64_in (by omega) (by omega))) ?_
            refine L.y rfl (Y.move rfl) ?_
            refine L.nil ?_
            have hstep : anyQ l (judgeN l k) x (q + 1) = anyQ l (judgeN l k) x q := by rw [hst]; rw [clash_no (Or.inl hc2), Bool.and_false, Bool.or_false]
            refine E.again (x := q) (q + 1) (by omega) (by omega) ⟨rfl, rfl, rfl, rfl, rfl, rfl, rfl, rfl, rfl, rfl, trivial⟩ (fun w hw => by rw [hstep]; exact hw.sublist (.cons _ (List.Sublist.refl _)))
        ·
          refine L.y rfl (Y.move rfl) ?_
          refine L.pass rfl rfl (by nofun) ?_
          refine L.pass rfl rfl (by nofun) ?_
          refine L.pass rfl rfl (by nofun) ?_
          refine L.pass rfl rfl (by nofun) ?_
          refine L.pass rfl rfl (by nofun) ?_
          refine L.y rfl (Y.pickF rfl rfl) ?_
          refine L.y rfl (Y.move rfl) ?_
          refine L.pass rfl rfl (by nofun) ?_
          refine L.pass rfl rfl (by nofun) ?_
          refine L.pass rfl rfl (by nofun) ?_
          refine L.pass rfl rfl (by nofun) ?_
          refine L.pass rfl rfl (by nofun) ?_
          refine L.y rfl (Y.pickF rfl rfl) ?_
          refine L.nil ?_
          refine E.thenN ?_
          refine W.condF rfl ?_
          refine W.skip ?_
          refine E.blockN ?_
          refine E.thenN ?_
          refine W.region ?_
          refine L.y rfl (Y.add rfl rfl (i64_in (by omega) (by omega))) ?_
          refine L.y rfl (Y.move rfl) ?_
          refine L.nil ?_
          have hstep : anyQ l (judgeN l k) x (q + 1) = anyQ l (judgeN l k) x q := by rw [hst]; rw [hc1, Bool.false_and, Bool.or_false]
          refine E.again (x := q) (q + 1) (by omega) (by omega) ⟨rfl, rfl, rfl, rfl, rfl, rfl, rfl, rfl, rfl, rfl, trivial⟩ (fun w hw => by rw [hstep]; exact hw.sublist (.cons _ (List.Sublist.refl _)))
      ·
        refine L.nil ?_
        refine E.thenN ?_
        refine W.seq ?_
        refine W.condF rfl ?_
        refine W.exit ?_
        refine E.thenX ?_
        refine E.thenX ?_
        refine E.blockX ?_
        refine E.blockN ?_
        refine E.thenN ?_
        refine W.region ?_
        refine L.y rfl (Y.add rfl rfl (i64_in (by omega) (by omega))) ?_
        refine L.y rfl (Y.move rfl) ?_
        refine L.nil ?_
        refine E.again (x := k) (k + 1) (by omega) (by omega) ⟨rfl, rfl, rfl, rfl, rfl, trivial⟩ (fun _ hw => by rw [judgeN_succ hx, show anyQ l (judgeN l k) x k = anyQ l (judgeN l k) x q from by rw [show q = k by simp at hb; omega]]; exact hw.sublist (.cons _ (List.Sublist.refl _)))
    ·
      refine L.nil ?_
      refine E.thenN ?_
      refine W.seq ?_
      refine W.condF rfl ?_
      refine W.exit ?_
      refine E.thenX ?_
      refine E.thenX ?_
      refine E.blockX ?_
      refine E.thenN ?_
      refine W.seq ?_
      refine W.region ?_
      refine L.y rfl (Y.move rfl) ?_
      refine L.y rfl (Y.assign rfl) ?_
      refine L.y rfl (Y.assign rfl) ?_
      refine L.nil ?_
      refine E.thenN ?_
      refine W.ret ?_
      refine E.ret2 rfl rfl rfl (fun w hw => ?_)
      have hkl : k = l.length := by omega
      have h0 : chk l = 0 := by omega
      rw [hkl, Nat.sub_self, List.replicate_zero, List.append_nil] at hw
      exact ⟨_, _, rfl, ⟨_, by rw [h0], by rw [if_pos h0]⟩, hw⟩
set_option maxRecDepth 100000 in
theorem refJudge (l : List TryV) (v : Value) (w : World) (hT : Tries w v l) (h40 : l.length ≤ 40) : Does Try.prog 43 [v] w fun u m => m = [.sl u 4 1 (bools (judgeN l l.length))] := by
  have hll : (l.map TryV.row).length = l.length := List.length_map _
  have hle := hT.1.le
  unfold maxLen at hle
  refine body (n := 54) Try.func43 rfl rfl rfl (Cls.refl w) ?_
  refine W.seq ?_
  refine W.region ?_
  refine L.y rfl (Y.assign rfl) ?_
  refine L.nil ?_
  refine E.thenN ?_
  refine W.seq ?_
  refine W.region ?_
  refine L.y rfl (Y.assign rfl) ?_
  refine L.nil ?_
  refine E.thenN ?_
  refine W.seq ?_
  refine W.seq ?_
  refine W.region ?_
  refine L.y rfl (Y.move rfl) ?_
  refine L.y rfl (Y.lenA Try.underlying52 rfl (fun w' hw => hT.1.cls0 hw)) ?_
  refine L.y rfl (Y.move rfl) ?_
  refine L.nil ?_
  refine E.thenN ?_
  refine W.block ?_
  refine W.nilSl 4 1 ?_
  refine W.loop2 (X := Nat) (Y := Value) (fun k g => [(0, v), (3, g), (8, v), (9, .int .i64 ((l.map TryV.row).length : Nat)), (10, .int .i64 (k : Nat))]) (fun k g => Cls w [] [.sl g 4 1 (bools (judgeN l k))]) (fun k g => k ≤ l.length) (fun k g => l.length - k) 0 (.slice none 0 0) (Nat.zero_le _) ⟨rfl, rfl, rfl, rfl, rfl, trivial⟩ (fun _ hw => hw) ?_
  rintro k g hk
  refine W.seq ?_
  refine W.region ?_
  refine L.split rfl (Y.lss rfl rfl) (fun ha => ?_) (fun ha => ?_)
  ·
    refine L.nil ?_
    refine E.thenN ?_
    refine W.seq ?_
    refine W.condT rfl ?_
    refine W.skip ?_
    refine E.thenN ?_
    refine W.seq ?_
    refine W.block ?_
    refine W.seq ?_
    refine W.region ?_
    obtain ⟨x, hx⟩ := have_get (l := l) (k := k) (by omega)
    have hR := (hT.2 x (List.mem_of_getElem? hx)).1
    have hW := (hT.2 x (List.mem_of_getElem? hx)).2
    have hrl := ints_length x.rs
    have hwl := ints_length x.ws
    have hjl := judgeN_length hk
    refine L.y rfl (Y.indexE Try.underlying52 sz158 rfl rfl (fun w' hw => hT.1.cls0 hw) (by omega) (by omega)) ?_
    refine L.y rfl (Y.loadEN ag158 sz158 rfl (fun w' hw => hT.1.cls0 hw) (map_get hx) rfl) ?_
    refine L.alloc rfl ze158 ?_
    intro b5
    refine L.store (i := 0) sz158 rfl rfl rfl rfl (row_one hR hW) rfl (by decide) ?_
    refine L.nil ?_
    refine E.thenN ?_
    refine W.seq ?_
    refine W.region ?_
    refine L.y rfl (Y.assign rfl) ?_
    refine L.nil ?_
    refine E.thenN ?_
    refine W.seq ?_
    refine W.seq ?_
    refine W.region ?_
    refine L.y rfl (Y.move rfl) ?_
    refine L.y rfl (Y.lenA Try.underlying54 rfl (fun w hw => As.at_ (hw.get (i := 1) rfl))) ?_
    refine L.y rfl (Y.move rfl) ?_
    refine L.nil ?_
    refine E.thenN ?_
    refine W.block ?_
    refine W.loop (X := Nat) (fun q => [(0, v), (3, g), (8, v), (9, .int .i64 ((l.map TryV.row).length : Nat)), (10, .int .i64 (k : Nat)), (5, pt b5 0), (6, .bool (!(anyQ l (judgeN l k) x q))), (15, .int .i64 ((bools (judgeN l k)).length : Nat)), (16, .int .i64 (q : Nat))]) (fun q => Cls w [] [.obj b5 x.row 158, .sl g 4 1 (bools (judgeN l k))]) (fun q => q ≤ k) (fun q => k - q) 0 (Nat.zero_le _) ⟨rfl, rfl, rfl, rfl, rfl, rfl, congrArg (fun z => some (Value.bool z)) (by rw [anyQ_zero]; rfl), rfl, rfl, trivial⟩ (fun _ hw => hw) ?_
    rintro q hq
    have hbl : (bools (judgeN l k)).length = k := by rw [bools_length, hjl]
    generalize hok : (!(anyQ l (judgeN l k) x q)) = ok
    rcases ok with _ | _
    ·
      refine W.seq ?_
      refine W.region ?_
      refine L.split rfl (Y.lss rfl rfl) (fun hb => ?_) (fun hb => ?_)
      ·
        refine L.nil ?_
        refine E.thenN ?_
        refine W.seq ?_
        refine W.condT rfl ?_
        refine W.skip ?_
        refine E.thenN ?_
        refine W.seq ?_
        refine W.block ?_
        refine W.seq ?_
        refine W.region ?_
        obtain ⟨u, hu⟩ := have_get (l := l) (k := q) (by omega)
        obtain ⟨o, ho⟩ := have_get (l := judgeN l k) (k := q) (by omega)
        have hR2 := (hT.2 u (List.mem_of_getElem? hu)).1
        have hW2 := (hT.2 u (List.mem_of_getElem? hu)).2
        have hst := anyQ_step (t := x) hu ho
        refine L.y rfl (Y.move rfl) ?_
        refine L.y rfl (Y.assign rfl) ?_
        refine L.nil ?_
        refine E.thenN ?_
        refine W.quiet mixed (by kernel_rfl) (fun _ hw => hw.drew) ?_
        refine U.y rfl (Y.move rfl) ?_
        refine U.y rfl (Y.move rfl) ?_
        refine U.pass rfl rfl (by nofun) ?_
        refine U.pass rfl rfl (by nofun) ?_
        refine U.pass rfl rfl (by nofun) ?_
        refine U.pass rfl rfl (by nofun) ?_
        refine U.pass rfl rfl (by nofun) ?_
        refine U.pass rfl rfl (by nofun) ?_
        refine U.pass rfl rfl (by nofun) ?_
        refine U.pass rfl rfl (by nofun) ?_
        refine U.pass rfl rfl (by nofun) ?_
        refine U.pass rfl rfl (by nofun) ?_
        refine U.pass rfl rfl (by nofun) ?_
        refine U.pass rfl rfl (by nofun) ?_
        refine U.pass rfl rfl (by nofun) ?_
        refine U.pass rfl rfl (by nofun) ?_
        refine U.pass rfl rfl (by nofun) ?_
        refine U.pass rfl rfl (by nofun) ?_
        refine U.pass rfl rfl (by nofun) ?_
        refine U.pass rfl rfl (by nofun) ?_
        refine U.pass rfl rfl (by nofun) ?_
        refine U.pass rfl rfl (by nofun) ?_
        refine U.pass rfl rfl (by nofun) ?_
        refine U.pass rfl rfl (by nofun) ?_
        refine U.pass rfl rfl (by nofun) ?_
        refine U.pass rfl rfl (by nofun) ?_
        refine U.pass rfl rfl (by nofun) ?_
        refine U.y rfl (Y.pickF rfl rfl) ?_
        refine U.y rfl (Y.assign rfl) ?_
        refine U.nil ?_
        refine E.blockN ?_
        refine E.thenN ?_
        refine W.region ?_
        refine L.y rfl (Y.add rfl rfl (i64_in (by omega) (by omega))) ?_
        refine L.y rfl (Y.move rfl) ?_
        refine L.nil ?_
        refine E.again (x := q) (q + 1) (by omega) (by omega) ⟨rfl, rfl, rfl, rfl, rfl, rfl, congrArg (fun z => some (Value.bool z)) (by rw [hst, not_false_out hok, Bool.true_or] <;> rfl), rfl, rfl, trivial⟩ (fun _ hw => hw)
      ·
        refine L.nil ?_
        refine E.thenN ?_
        refine W.seq ?_
        refine W.condF rfl ?_
        refine W.exit ?_
        refine E.thenX ?_
        refine E.thenX ?_
        refine E.blockX ?_
        refine E.thenN ?_
        refine W.region ?_
        refine L.y rfl (Y.move rfl) ?_
        refine L.y rfl (Y.move rfl) ?_
        refine L.litOne rfl Try.underlying54 el4 rfl rfl ?_
        intro b50
        refine L.append (i := 2) rfl Try.underlying54 el4 rfl rfl rfl (fun w hw => As.at_ (hw.get (i := 0) rfl)) (Plain.one (by simp [Value.oneCell'])) (by simp [maxLen]; omega) (by simp; omega) ?_
        intro g2
        refine L.y rfl (Y.assign rfl) ?_
        refine L.nil ?_
        refine E.blockN ?_
        refine E.thenN ?_
        refine W.region ?_
        refine L.y rfl (Y.add rfl rfl (i64_in (by omega) (by omega))) ?_
        refine L.y rfl (Y.move rfl) ?_
        refine L.nil ?_
        have hqk : q = k := by simp at hb; omega
        rw [hqk] at hok
        refine E.again2 (x := k) (y := g) (k + 1) g2 (by omega) (by omega) ⟨rfl, rfl, rfl, rfl, rfl, trivial⟩ (fun _ hw => by rw [judgeN_succ hx, hok, bools_append]; exact hw.sublist (.cons_cons _ (.cons _ (.cons _ .slnil))))
    ·
      refine W.seq ?_
      refine W.region ?_
      refine L.split rfl (Y.lss rfl rfl) (fun hb => ?_) (fun hb => ?_)
      ·
        refine L.nil ?_
        refine E.thenN ?_
        refine W.seq ?_
        refine W.condT rfl ?_
        refine W.skip ?_
        refine E.thenN ?_
        refine W.seq ?_
        refine W.block ?_
        refine W.seq ?_
        refine W.region ?_
        obtain ⟨u, hu⟩ := have_get (l := l) (k := q) (by omega)
        obtain ⟨o, ho⟩ := have_get (l := judgeN l k) (k := q) (by omega)
        have hR2 := (hT.2 u (List.mem_of_getElem? hu)).1
        have hW2 := (hT.2 u (List.mem_of_getElem? hu)).2
        have hst := anyQ_step (t := x) hu ho
        refine L.y rfl (Y.move rfl) ?_
        refine L.y rfl (Y.assign rfl) ?_
        refine L.nil ?_
        refine E.thenN ?_
        refine W.quiet mixed (by kernel_rfl) (fun _ hw => hw.drew) ?_
        refine U.y rfl (Y.move rfl) ?_
        refine U.y rfl (Y.move rfl) ?_
        refine U.take rfl ?_
        refine U.y rfl (Y.move rfl) ?_
        refine U.take rfl ?_
        refine U.y rfl (Y.move rfl) ?_
        refine U.take rfl ?_
        refine U.y rfl (Y.indexE Try.underlying54 sz4 rfl rfl (fun w hw => As.at_ (hw.get (i := 1) rfl)) (by omega) (by simp; omega)) ?_
        refine U.take rfl ?_
        refine U.splitB rfl (Y.loadE1 ag4 rfl (fun w hw => As.at_ (hw.get (i := 1) rfl)) (bools_get ho)) (fun hc1 => ?_) (fun hc1 => ?_)
        ·
          refine U.take rfl ?_
          refine U.y rfl (Y.move rfl) ?_
          refine U.take rfl ?_
          refine U.y rfl (Y.move rfl) ?_
          refine U.take rfl ?_
          refine U.y rfl (Y.move rfl) ?_
          refine U.take rfl ?_
          refine U.y rfl (Y.indexE Try.underlying52 sz158 rfl rfl (fun w' hw => hT.1.cls0 hw) (by omega) (by omega)) ?_
          refine U.take rfl ?_
          refine U.y rfl (Y.fieldE fd158_1 rfl) ?_
          refine U.take rfl ?_
          refine U.y rfl (Y.loadE ag3 rfl (fun w' hw => hT.1.cls0 hw) (map_get hu) rfl) ?_
          refine U.take rfl ?_
          refine U.y rfl (Y.fieldP fd158_0 rfl) ?_
          refine U.take rfl ?_
          refine U.y rfl (Y.loadP (i := 0) ag3 rfl rfl rfl) ?_
          refine U.take rfl ?_
          refine U.split rfl (Y.gtr rfl rfl) (fun hc2 => ?_) (fun hc2 => ?_)
          ·
            refine U.take rfl ?_
            refine U.y rfl (Y.pickT rfl rfl) ?_
            refine U.take rfl ?_
            refine U.y rfl (Y.move rfl) ?_
            refine U.take rfl ?_
            refine U.y rfl (Y.move rfl) ?_
            refine U.take rfl ?_
            refine U.y rfl (Y.move rfl) ?_
            refine U.take rfl ?_
            refine U.y rfl (Y.indexE Try.underlying52 sz158 rfl rfl (fun w' hw => hT.1.cls0 hw) (by omega) (by omega)) ?_
            refine U.take rfl ?_
            refine U.y rfl (Y.fieldE fd158_3 rfl) ?_
            refine U.take rfl ?_
            refine U.y rfl (Y.loadE ag24 rfl (fun w' hw => hT.1.cls0 hw) (map_get hu) rfl) ?_
            refine U.take rfl ?_
            refine U.y rfl (Y.fieldP fd158_2 rfl) ?_
            refine U.take rfl ?_
            refine U.y rfl (Y.loadP (i := 0) ag24 rfl rfl rfl) ?_
            refine U.take rfl ?_
            refine U.splitB rfl (Y.does en103 rfl (fun w' hw => both u.ws x.rs u.wv x.rv w' (hW2.cls0 hw) (hR.cls0 hw))) (fun hc3 => ?_) (fun hc3 => ?_)
            ·
              refine U.take rfl ?_
              refine U.y rfl (Y.pickT rfl rfl) ?_
              refine U.take rfl ?_
              refine U.y rfl (Y.not rfl) ?_
              refine U.y rfl (Y.pickT rfl rfl) ?_
              refine U.y rfl (Y.assign rfl) ?_
              refine U.nil ?_
              refine E.blockN ?_
              refine E.thenN ?_
              refine W.region ?_
              refine L.y rfl (Y.add rfl rfl (i64_in (by omega) (by omega))) ?_
              refine L.y rfl (Y.move rfl) ?_
              refine L.nil ?_
              refine E.again (x := q) (q + 1) (by omega) (by omega) ⟨rfl, rfl, rfl, rfl, rfl, rfl, congrArg (fun z => some (Value.bool z)) (by rw [hst, not_true_out hok, hc1, clash_yes hc2 hc3] <;> rfl), rfl, rfl, trivial⟩ (fun _ hw => hw)
            ·
              refine U.take rfl ?_
              refine U.y rfl (Y.pickT rfl rfl) ?_
              refine U.take rfl ?_
              refine U.y rfl (Y.not rfl) ?_
              refine U.y rfl (Y.pickT rfl rfl) ?_
              refine U.y rfl (Y.assign rfl) ?_
              refine U.nil ?_
              refine E.blockN ?_
              refine E.thenN ?_
              refine W.region ?_
              refine L.y rfl (Y.add rfl rfl (i64_in (by omega) (by omega))) ?_
              refine L.y rfl (Y.move rfl) ?_
              refine L.nil ?_
              refine E.again (x := q) (q + 1) (by omega) (by omega) ⟨rfl, rfl, rfl, rfl, rfl, rfl, congrArg (fun z => some (Value.bool z)) (by rw [hst, not_true_out hok, clash_no (Or.inr hc3), Bool.and_false, Bool.or_false] <;> rfl), rfl, rfl, trivial⟩ (fun _ hw => hw)
          ·
            refine U.take rfl ?_
            refine U.y rfl (Y.pickT rfl rfl) ?_
            refine U.take rfl ?_
            refine U.y rfl (Y.move rfl) ?_
            refine U.pass rfl rfl (by nofun) ?_
            refine U.pass rfl rfl (by nofun) ?_
            refine U.pass rfl rfl (by nofun) ?_
            refine U.pass rfl rfl (by nofun) ?_
            refine U.pass rfl rfl (by nofun) ?_
            refine U.pass rfl rfl (by nofun) ?_
            refine U.pass rfl rfl (by nofun) ?_
            refine U.pass rfl rfl (by nofun) ?_
            refine U.take rfl ?_
            refine U.y rfl (Y.pickF rfl rfl) ?_
            refine U.take rfl ?_
            refine U.y rfl (Y.not rfl) ?_
            refine U.y rfl (Y.pickT rfl rfl) ?_
            refine U.y rfl (Y.assign rfl) ?_
            refine U.nil ?_
            refine E.blockN ?_
            refine E.thenN ?_
            refine W.region ?_
            refine L.y rfl (Y.add rfl rfl (i64_in (by omega) (by omega))) ?_
            refine L.y rfl (Y.move rfl) ?_
            refine L.nil ?_
            refine E.again (x := q) (q + 1) (by omega) (by omega) ⟨rfl, rfl, rfl, rfl, rfl, rfl, congrArg (fun z => some (Value.bool z)) (by rw [hst, not_true_out hok, clash_no (Or.inl hc2), Bool.and_false, Bool.or_false] <;> rfl), rfl, rfl, trivial⟩ (fun _ hw => hw)
        ·
          refine U.take rfl ?_
          refine U.y rfl (Y.move rfl) ?_
          refine U.pass rfl rfl (by nofun) ?_
          refine U.pass rfl rfl (by nofun) ?_
          refine U.pass rfl rfl (by nofun) ?_
          refine U.pass rfl rfl (by nofun) ?_
          refine U.pass rfl rfl (by nofun) ?_
          refine U.pass rfl rfl (by nofun) ?_
          refine U.pass rfl rfl (by nofun) ?_
          refine U.pass rfl rfl (by nofun) ?_
          refine U.take rfl ?_
          refine U.y rfl (Y.pickF rfl rfl) ?_
          refine U.take rfl ?_
          refine U.y rfl (Y.move rfl) ?_
          refine U.pass rfl rfl (by nofun) ?_
          refine U.pass rfl rfl (by nofun) ?_
          refine U.pass rfl rfl (by nofun) ?_
          refine U.pass rfl rfl (by nofun) ?_
          refine U.pass rfl rfl (by nofun) ?_
          refine U.pass rfl rfl (by nofun) ?_
          refine U.pass rfl rfl (by nofun) ?_
          refine U.pass rfl rfl (by nofun) ?_
          refine U.take rfl ?_
          refine U.y rfl (Y.pickF rfl rfl) ?_
          refine U.take rfl ?_
          refine U.y rfl (Y.not rfl) ?_
          refine U.y rfl (Y.pickT rfl rfl) ?_
          refine U.y rfl (Y.assign rfl) ?_
          refine U.nil ?_
          refine E.blockN ?_
          refine E.thenN ?_
          refine W.region ?_
          refine L.y rfl (Y.add rfl rfl (i64_in (by omega) (by omega))) ?_
          refine L.y rfl (Y.move rfl) ?_
          refine L.nil ?_
          refine E.again (x := q) (q + 1) (by omega) (by omega) ⟨rfl, rfl, rfl, rfl, rfl, rfl, congrArg (fun z => some (Value.bool z)) (by rw [hst, not_true_out hok, hc1, Bool.false_and, Bool.or_false] <;> rfl), rfl, rfl, trivial⟩ (fun _ hw => hw)
      ·
        refine L.nil ?_
        refine E.thenN ?_
        refine W.seq ?_
        refine W.condF rfl ?_
        refine W.exit ?_
        refine E.thenX ?_
        refine E.thenX ?_
        refine E.blockX ?_
        refine E.thenN ?_
        refine W.region ?_
        refine L.y rfl (Y.move rfl) ?_
        refine L.y rfl (Y.move rfl) ?_
        refine L.litOne rfl Try.underlying54 el4 rfl rfl ?_
        intro b50
        refine L.append (i := 2) rfl Try.underlying54 el4 rfl rfl rfl (fun w hw => As.at_ (hw.get (i := 0) rfl)) (Plain.one (by simp [Value.oneCell'])) (by simp [maxLen]; omega) (by simp; omega) ?_
        intro g2
        refine L.y rfl (Y.assign rfl) ?_
        refine L.nil ?_
        refine E.blockN ?_
        refine E.thenN ?_
        refine W.region ?_
        refine L.y rfl (Y.add rfl rfl (i64_in (by omega) (by omega))) ?_
        refine L.y rfl (Y.move rfl) ?_
        refine L.nil ?_
        have hqk : q = k := by simp at hb; omega
        rw [hqk] at hok
        refine E.again2 (x := k) (y := g) (k + 1) g2 (by omega) (by omega) ⟨rfl, rfl, rfl, rfl, rfl, trivial⟩ (fun _ hw => by rw [judgeN_succ hx, hok, bools_append]; exact hw.sublist (.cons_cons _ (.cons _ (.cons _ .slnil))))
  ·
    refine L.nil ?_
    refine E.thenN ?_
    refine W.seq ?_
    refine W.condF rfl ?_
    refine W.exit ?_
    refine E.thenX ?_
    refine E.thenX ?_
    refine E.blockX ?_
    refine E.thenN ?_
    refine W.seq ?_
    refine W.region ?_
    refine L.y rfl (Y.move rfl) ?_
    refine L.y rfl (Y.assign rfl) ?_
    refine L.nil ?_
    refine E.thenN ?_
    refine W.ret ?_
    refine E.ret1 rfl rfl (fun w hw => ?_)
    have hkl : k = l.length := by omega
    rw [hkl] at hw
    exact ⟨_, _, rfl, rfl, hw⟩
set_option maxRecDepth 100000 in
theorem law (l : List TryV) (v : Value) (w : World) (hT : Tries w v l) : Does Try.prog 7 [v] w fun u _ => u = .bool true := by
  refine body (n := 35) Try.func7 rfl rfl rfl (Cls.refl w) ?_
  refine W.seq ?_
  refine W.region ?_
  refine L.y rfl (Y.assign rfl) ?_
  refine L.nil ?_
  refine E.thenN ?_
  refine W.seq ?_
  refine W.region ?_
  refine L.y rfl (Y.move rfl) ?_
  refine L.y rfl (Y.does en39 rfl (fun w' hw => hopeErr l v w' (hT.cls0 hw))) ?_
  refine L.y rfl (Y.assign rfl) ?_
  refine L.nil ?_
  refine E.thenN ?_
  refine W.seq ?_
  refine W.region ?_
  refine L.y rfl (Y.move rfl) ?_
  refine L.does rfl en40 rfl (fun w' hw => judge l v w' (hT.cls0 hw)) ?_
  rintro r m' ⟨j, rfl, rfl⟩
  refine L.y rfl (Y.move rfl) ?_
  refine L.y rfl (Y.extract rfl rfl) ?_
  refine L.y rfl (Y.extract rfl rfl) ?_
  refine L.y rfl (Y.assign rfl) ?_
  refine L.y rfl (Y.assign rfl) ?_
  refine L.nil ?_
  refine E.thenN ?_
  refine W.seq ?_
  refine W.seq ?_
  refine W.region ?_
  refine L.y rfl (Y.move rfl) ?_
  refine L.y rfl (Y.does en41 rfl (fun w' hw => check l v w' (hT.cls0 hw))) ?_
  refine L.y rfl (Y.move rfl) ?_
  refine L.split rfl (Y.neq rfl rfl) (fun h1 => ?_) (fun h1 => ?_)
  ·
    exact absurd rfl h1
  ·
    refine L.nil ?_
    refine E.thenN ?_
    refine W.condF rfl ?_
    refine W.skip ?_
    refine E.thenN ?_
    refine W.seq ?_
    refine W.seq ?_
    refine W.region ?_
    refine L.y rfl (Y.move rfl) ?_
    refine L.split rfl (Y.neq rfl rfl) (fun h2 => ?_) (fun h2 => ?_)
    ·
      refine L.nil ?_
      refine E.thenN ?_
      refine W.condT rfl ?_
      refine W.seq ?_
      refine W.region ?_
      refine L.y rfl (Y.move rfl) ?_
      refine L.y rfl (Y.lenA Try.underlying54 rfl (fun w hw => As.at_ (hw.get (i := 0) rfl))) ?_
      refine L.split rfl (Y.eql rfl rfl) (fun h3 => ?_) (fun h3 => ?_)
      ·
        refine L.y rfl (Y.move rfl) ?_
        refine L.take rfl ?_
        refine L.y rfl (Y.move rfl) ?_
        refine L.take rfl ?_
        refine L.y rfl (Y.move rfl) ?_
        refine L.take rfl ?_
        refine L.split rfl (Y.eql rfl rfl) (fun h4 => ?_) (fun h4 => ?_)
        ·
          refine L.y rfl (Y.pickT rfl rfl) ?_
          refine L.y rfl (Y.assign rfl) ?_
          refine L.nil ?_
          refine E.thenN ?_
          refine W.ret ?_
          refine E.thenR ?_
          refine E.ret1 rfl rfl (fun w hw => ?_)
          exact ⟨_, _, rfl, rfl, hw.sublist (List.nil_sublist _)⟩
        ·
          exact absurd rfl h4
      ·
        exact absurd (by rw [if_neg h2]; rfl) h3
    ·
      refine L.nil ?_
      refine E.thenN ?_
      refine W.condF rfl ?_
      refine W.skip ?_
      refine E.thenN ?_
      refine W.seq ?_
      refine W.region ?_
      refine L.y rfl (Y.move rfl) ?_
      refine L.y rfl (Y.move rfl) ?_
      refine L.does rfl en43 rfl (fun w' hw => refJudge l v w' (hT.cls0 hw) (chk_len (by omega))) ?_
      rintro g m' rfl
      refine L.split rfl (Y.does en42 rfl (fun w' hw => equal_bool _ _ j g w' (As.at_ (hw.get (i := 1) rfl)) (As.at_ (hw.get (i := 0) rfl)))) (fun h5 => ?_) (fun h5 => ?_)
      ·
        refine L.y rfl (Y.move rfl) ?_
        refine L.take rfl ?_
        refine L.y rfl (Y.move rfl) ?_
        refine L.take rfl ?_
        refine L.split rfl (Y.eql rfl rfl) (fun h6 => ?_) (fun h6 => ?_)
        ·
          refine L.y rfl (Y.pickT rfl rfl) ?_
          refine L.y rfl (Y.assign rfl) ?_
          refine L.nil ?_
          refine E.thenN ?_
          refine W.ret ?_
          refine E.ret1 rfl rfl (fun w hw => ?_)
          exact ⟨_, _, rfl, rfl, hw.sublist (List.nil_sublist _)⟩
        ·
          exact absurd (by omega) h6
      ·
        exact absurd (by rw [if_pos (by omega)]) h5
end Go.Proofs.Ytfmgjigdebofaaa.Hope
