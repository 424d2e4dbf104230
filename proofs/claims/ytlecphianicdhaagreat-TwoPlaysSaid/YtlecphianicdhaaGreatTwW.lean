import Derived.Test.YtlecphianicdhaaGreatTwW5
import Derived.Test.YtlecphianicdhaaGreatChecked
import Derived.KernelRfl
import Derived.Test.YtlecphianicdhaaGreatZe
namespace Go.Proofs.YtlecphianicdhaaGreat
open Go.S
set_option linter.unusedVariables false
set_option linter.unusedSimpArgs false
set_option maxRecDepth 100000 in
set_option maxHeartbeats 8000000 in
theorem W12a:∀ (n:Nat) (kI:(List TI)) (kA:(List (Int×(List TOp)))) (kB:(List (Int×Int))) (kD:(List TOp)) (a1:TOp) (pb0:Nat) (kH:Value) (kN:Nat→List Value) (kF:Nat) (kJ:Int→Value) (kE:Nat) (kC:Value) (K:World→Prop) (w:World) (r:((List TI)×(List (Int×(List TOp)))×(List (Int×Int))×(List TOp))) (h:M12b n kI kA kB kD a1=some r) (F:List Nat) (hK:StbF K w F) (hA0_locks:Fz K [] kH 3 (zr TI.rowv kN kI)) (hD0_locks:FzA K [] (zs TI.sds kN kI)) (hc0:Cls w F [.obj pb0 [kH,.map (some kF),.map (some kE),kC] 47,.mp kF (msrow kJ kA),.ss (msds kJ 40 3 TOp.row kA),.mp kE (mrow (VI .i64) kB),.sl kC 40 3 (kD.map TOp.row)] w),DoesF Tryz.prog 12 [pt pb0 0,.agg #[.int .i64 a1.Tx,.int .i64 a1.Kind,.int .i64 a1.Item]] F w fun u m=>∃ c,∃ y1 z1 z2 y4,u=.tuple #[]∧Fz K c y1 3 (zr TI.rowv z1 r.1)∧FzA K c (zs TI.sds z1 r.1)∧m=[.obj pb0 [y1,.map (some kF),.map (some kE),y4] 47,.mp kF (msrow z2 r.2.1),.ss (msds z2 40 3 TOp.row r.2.1),.mp kE (mrow (VI .i64) r.2.2.1),.sl y4 40 3 (r.2.2.2.map TOp.row),.os c]:=by
 intro n
 induction n with
 | zero=>intro kI kA kB kD a1 pb0 kH kN kF kJ kE kC K w r h F hK hA0_locks hD0_locks hc0;rw [M12b] at h;cases h
 | succ n ih =>
 intro kI kA kB kD a1 pb0 kH kN kF kJ kE kC K w r h F hK hA0_locks hD0_locks hc0
 rw [M12b] at h
 generalize M12b n=rec at h ih
 rw [M12a] at h
 refine body (n:=130) (C:=Cls w F [.obj pb0 [kH,.map (some kF),.map (some kE),kC] 47,.mp kF (msrow kJ kA),.ss (msds kJ 40 3 TOp.row kA),.mp kE (mrow (VI .i64) kB),.sl kC 40 3 (kD.map TOp.row),.os []]) Tryz.func12 rfl rfl rfl hc0.osNil (sr (L.box rfl rfl ?_))
 intro b1
 refine ln (W.seqJ (fun gs D=>gs=[(0,pt pb0 0),(3,pt b1 0)]∧D=Cls w F [.obj b1 [.int .i64 a1.Tx,.int .i64 a1.Kind,.int .i64 a1.Item] 40,.obj pb0 [kH,.map (some kF),.map (some kE),kC] 47,.mp kF (msrow kJ kA),.ss (msds kJ 40 3 TOp.row kA),.mp kE (mrow (VI .i64) kB),.sl kC 40 3 (kD.map TOp.row),.os []]∧M12K1 kA a1 kI kB kD rec=some r) ?_ ?_)
 ·refine W.seq (W.quietC mixed (by kernel_rfl) (fun _ hw=>hw.drew) (fun hC=>(U.r 2 rfl (U.y rfl (Y.fieldP fd47_2 rfl) (U.y rfl (Y.loadP (i:=1) ag45 rfl rfl rfl) (U.y rfl (Y.fieldP fd40_0 rfl) (U.y rfl (Y.loadP (i:=0) ag3 rfl rfl rfl) (U.y rfl (Y.lookupM (i:=4) (g:=(VI .i64)) (lm:=kB) (z0:=0) Tryz.underlying45 Tryz.underlying3 (by kernel_rfl) rfl rfl rfl rfl) (U.ite h rfl (Y.gtr rfl rfl) (fun c164 h=>?_) (fun c164 h=>?_))))))))))
  ·refine U.nil (E.thenN (W.condT rfl (W.ret (E.KSR (E.ret0 rfl (fun w1 hw=>?_))))))
   cases h
   exact ⟨_,_,rfl,⟨[],kH,kN,_,_,rfl,hA0_locks.up,hD0_locks.up,rfl⟩,hw.s [1,2,3,4,5,6]⟩
  exact U.nil (E.thenN (W.condF rfl (W.skip (E.jJ ⟨rfl,rfl,h⟩ hI))))
 rintro _ _ ⟨rfl,rfl,h⟩
 rw [M12K1] at h
 refine W.seqJ (fun gs D=>gs=[(0,pt pb0 0),(3,pt b1 0)]∧D=Cls w F [.obj b1 [.int .i64 a1.Tx,.int .i64 a1.Kind,.int .i64 a1.Item] 40,.obj pb0 [kH,.map (some kF),.map (some kE),kC] 47,.mp kF (msrow kJ kA),.ss (msds kJ 40 3 TOp.row kA),.mp kE (mrow (VI .i64) kB),.sl kC 40 3 (kD.map TOp.row),.os []]∧M12K2 a1 kD rec kI kA kB=some r) ?_ ?_
 ·refine W.seq (W.quietC mixed (by kernel_rfl) (fun _ hw=>hw.drew) (fun hC=>(U.r 2 rfl (U.y rfl (Y.fieldP fd47_1 rfl) (U.y rfl (Y.loadP (i:=1) ag44 rfl rfl rfl) (U.y rfl (Y.fieldP fd40_0 rfl) (U.y rfl (Y.loadP (i:=0) ag3 rfl rfl rfl) (U.y rfl (Y.msLookOk (i:=2) (us:=kJ) (l:=kA) Tryz.underlying44 Tryz.underlying3 (by kernel_rfl) rfl rfl rfl) (U.r 2 rfl (U.iteB h rfl (Y.extract rfl rfl) (fun c140 h=>?_) (fun c140 h=>?_)))))))))))
  ·refine U.r 2 rfl (U.nil (E.thenN (sr (L.r 1 rfl (ln (W.condT rfl (W.seq (W.drawn2 (k:=11) (stC [[9,10],[10]] [Cls w F [.obj b1 [.int .i64 a1.Tx,.int .i64 a1.Kind,.int .i64 a1.Item] 40,.obj pb0 [kH,.map (some kF),.map (some kE),kC] 47,.mp kF (msrow kJ kA),.ss (msds kJ 40 3 TOp.row kA),.mp kE (mrow (VI .i64) kB),.sl kC 40 3 (kD.map TOp.row),.os []],Cls w F [.obj b1 [.int .i64 a1.Tx,.int .i64 a1.Kind,.int .i64 a1.Item] 40,.obj pb0 [kH,.map (some kF),.map (some kE),kC] 47,.mp kF (msrow kJ kA),.mp kE (mrow (VI .i64) kB),.sl kC 40 3 (kD.map TOp.row),.os []]] (Cls w F [.obj b1 [.int .i64 a1.Tx,.int .i64 a1.Kind,.int .i64 a1.Item] 40,.obj pb0 [kH,.map (some kF),.map (some kE),kC] 47,.mp kE (mrow (VI .i64) kB),.sl kC 40 3 (kD.map TOp.row),.os []])) rfl mixed (fun _ hw=>hw.drew) (Sc.now (by kernel_rfl) hI) (V2.zz [] (Zc.on' (Zc.on' (Zc.fin hI) (sI [0,1,3,4,5])) (sI [0,1,4,5,6])) (fun hz158=>(V2.r [0,1] (by kernel_rfl) rfl (V2.q 2 [] hz158 rfl rfl (Y.fieldP fd47_1 rfl) ?_))))))))))))
   refine V2.q 3 [] hz158 rfl rfl (Y.loadP (i:=1) ag44 rfl rfl rfl) (V2.q 4 [] hz158 rfl rfl (Y.fieldP fd40_0 rfl) (V2.q 5 [] hz158 rfl rfl (Y.loadP (i:=0) ag3 rfl rfl rfl) (V2.r [6] (by kernel_rfl) rfl (V2.q 7 [] hz158 rfl rfl (Y.loadPW (i:=0) ag40 sz40 rfl rfl rfl) (V2.eff (i:=8) (by kernel_rfl) rfl (L.litAgg rfl Tryz.underlying22 eL40 rfl rfl rfl ?_))))))
   intro b159
   refine L.nil (E.toV2 (stC [[9,10],[10]] [Cls w F [.sl (sv b159 1) 40 3 (([a1]).map TOp.row),.obj b1 [.int .i64 a1.Tx,.int .i64 a1.Kind,.int .i64 a1.Item] 40,.obj pb0 [kH,.map (some kF),.map (some kE),kC] 47,.mp kF (msrow kJ kA),.ss (msds kJ 40 3 TOp.row kA),.mp kE (mrow (VI .i64) kB),.sl kC 40 3 (kD.map TOp.row),.os []],Cls w F [.sl (sv b159 1) 40 3 (([a1]).map TOp.row),.obj b1 [.int .i64 a1.Tx,.int .i64 a1.Kind,.int .i64 a1.Item] 40,.obj pb0 [kH,.map (some kF),.map (some kE),kC] 47,.mp kF (msrow kJ kA),.mp kE (mrow (VI .i64) kB),.sl kC 40 3 (kD.map TOp.row),.os []]] (Cls w F [.sl (sv b159 1) 40 3 (([a1]).map TOp.row),.obj b1 [.int .i64 a1.Tx,.int .i64 a1.Kind,.int .i64 a1.Item] 40,.obj pb0 [kH,.map (some kF),.map (some kE),kC] 47,.mp kE (mrow (VI .i64) kB),.sl kC 40 3 (kD.map TOp.row),.os []])) 8 (by kernel_rfl) (Sc.stay (sI [1,2,3,4,5,6,7]) (Sc.stay (sI [1,2,3,4,5,6]) (Sc.stayD (sI [1,2,3,4,5])))) (Sc.now (by kernel_rfl) hI) (V2.eff (i:=9) (by kernel_rfl) rfl (L.msOut (i:=3) (j:=4) (a:=a1.Tx) (us:=kJ) (l:=kA) (row:=TOp.row) h rfl rfl ?_)))
   intro l160 el160 h
   refine L.to (D:=Cls w F [.sl (msVal kJ kA a1.Tx) 40 3 (l160.map TOp.row),.sl (sv b159 1) 40 3 (([a1]).map TOp.row),.obj b1 [.int .i64 a1.Tx,.int .i64 a1.Kind,.int .i64 a1.Item] 40,.obj pb0 [kH,.map (some kF),.map (some kE),kC] 47,.mp kF (msrow kJ kA),.ss (msds kJ 40 3 TOp.row (mdel kA a1.Tx)),.mp kE (mrow (VI .i64) kB),.sl kC 40 3 (kD.map TOp.row),.os []]) hI (L.appM (i:=0) (g:=TOp.row) (l:=l160) (more:=[a1]) h rfl Tryz.underlying22 eL40 rfl rfl rfl (fun w hw=>As.at_ (hw.get (i:=1) rfl)) (plain_TOp _) rfl ?_)
   intro v161 l162 el162 h
   refine L.nil (E.toV2 (stC [[10]] [Cls w F [.sl v161 40 3 (l162.map TOp.row),.sl (sv b159 1) 40 3 (([a1]).map TOp.row),.obj b1 [.int .i64 a1.Tx,.int .i64 a1.Kind,.int .i64 a1.Item] 40,.obj pb0 [kH,.map (some kF),.map (some kE),kC] 47,.mp kF (msrow kJ kA),.mp kE (mrow (VI .i64) kB),.sl kC 40 3 (kD.map TOp.row),.os []]] (Cls w F [.sl (sv b159 1) 40 3 (([a1]).map TOp.row),.obj b1 [.int .i64 a1.Tx,.int .i64 a1.Kind,.int .i64 a1.Item] 40,.obj pb0 [kH,.map (some kF),.map (some kE),kC] 47,.mp kE (mrow (VI .i64) kB),.sl kC 40 3 (kD.map TOp.row),.os []])) 9 (by kernel_rfl) (Sc.past rfl (Sc.stay (sI [1,2,3,4,5,6,7]) (Sc.stayD hI))) (Sc.now (by kernel_rfl) (sI [0,1,2,3,4,6,7,8])) (V2.eff (i:=10) (by kernel_rfl) rfl (L.msPut (i:=4) (j:=5) (p:=0) (a:=a1.Tx) (us:=kJ) (l:=kA) (x1:=l162) (row:=TOp.row) Tryz.underlying44 Tryz.underlying3 rfl rfl rfl rfl rfl (.inr rfl) rfl ?_)))
   intro q163
   refine L.to (D:=Cls w F [.sl (sv b159 1) 40 3 (([a1]).map TOp.row),.obj b1 [.int .i64 a1.Tx,.int .i64 a1.Kind,.int .i64 a1.Item] 40,.obj pb0 [kH,.map (some kF),.map (some kE),kC] 47,.mp kF (msrow q163 (mset kA a1.Tx l162)),.ss (msds q163 40 3 TOp.row (mset kA a1.Tx l162)),.mp kE (mrow (VI .i64) kB),.sl kC 40 3 (kD.map TOp.row),.os []]) hI (L.nil (E.toV2 (stC [] [] (Cls w F [.sl (sv b159 1) 40 3 (([a1]).map TOp.row),.obj b1 [.int .i64 a1.Tx,.int .i64 a1.Kind,.int .i64 a1.Item] 40,.obj pb0 [kH,.map (some kF),.map (some kE),kC] 47,.mp kE (mrow (VI .i64) kB),.sl kC 40 3 (kD.map TOp.row),.os []])) 10 (by kernel_rfl) (Sc.past rfl (Sc.stayD hI)) (Sc.atD (sI [0,1,2,5,6,7])) (V2.done (by kernel_rfl) (E.thenN (W.ret (E.KSR (E.ret0 rfl (fun w1 hw=>?_))))))))
   cases h
   exact ⟨_,_,rfl,⟨[],kH,kN,_,_,rfl,hA0_locks.up,hD0_locks.up,rfl⟩,hw.s [2,3,4,5,6,7]⟩
  exact U.r 2 rfl (U.nil (E.thenN (sr (L.r 1 rfl (ln (W.condF rfl (W.skip (E.jJ ⟨rfl,rfl,h⟩ hI))))))))
 rintro _ _ ⟨rfl,rfl,h⟩
 rw [M12K2] at h
 refine W.seqJ (fun gs D=>gs=[(0,pt pb0 0),(3,pt b1 0)]∧D=Cls w F [.obj b1 [.int .i64 a1.Tx,.int .i64 a1.Kind,.int .i64 a1.Item] 40,.obj pb0 [kH,.map (some kF),.map (some kE),kC] 47,.mp kF (msrow kJ kA),.ss (msds kJ 40 3 TOp.row kA),.mp kE (mrow (VI .i64) kB),.sl kC 40 3 (kD.map TOp.row),.os []]∧M12K3 a1 kI kD kA kB rec=some r) ?_ ?_
 ·refine sr (L.y rfl (Y.fieldP fd40_1 rfl) (L.y rfl (Y.loadP (i:=0) ag3 rfl rfl rfl) (L.ite h rfl (Y.gtr rfl rfl) (fun c108 h=>?_) (fun c108 h=>?_))))
  ·refine ln (W.condT rfl (W.seq (W.drawn2 (k:=11) (stC [[7,10],[10]] [Cls w F [.obj b1 [.int .i64 a1.Tx,.int .i64 a1.Kind,.int .i64 a1.Item] 40,.obj pb0 [kH,.map (some kF),.map (some kE),kC] 47,.mp kF (msrow kJ kA),.ss (msds kJ 40 3 TOp.row kA),.mp kE (mrow (VI .i64) kB),.sl kC 40 3 (kD.map TOp.row),.os []],Cls w F [.obj b1 [.int .i64 a1.Tx,.int .i64 a1.Kind,.int .i64 a1.Item] 40,.obj pb0 [kH,.map (some kF),.map (some kE),kC] 47,.mp kF (msrow kJ kA),.ss (msds kJ 40 3 TOp.row kA),.mp kE (mrow (VI .i64) kB),.os []]] (Cls w F [.obj b1 [.int .i64 a1.Tx,.int .i64 a1.Kind,.int .i64 a1.Item] 40,.mp kF (msrow kJ kA),.ss (msds kJ 40 3 TOp.row kA),.mp kE (mrow (VI .i64) kB),.os []])) rfl mixed (fun _ hw=>hw.drew) (Sc.now (by kernel_rfl) hI) (V2.zz [] (Zc.on' (Zc.on' (Zc.fin hI) (sI [0,2,3,4,5])) (sI [0,2,3,4,6])) (fun hz118=>(V2.r [0,1,2] (by kernel_rfl) rfl (V2.q 3 [] hz118 rfl rfl (Y.fieldP fd47_3 rfl) (V2.zz [10] (Zc.on' (Zc.at1 hI) (sI [0,1,2,3,4,6])) (fun hz119=>(V2.q 4 [10] hz119 rfl rfl (Y.loadP (i:=1) ag22 rfl rfl rfl) (V2.q 5 [] hz118 rfl rfl (Y.loadPW (i:=0) ag40 sz40 rfl rfl rfl) (V2.eff (i:=6) (by kernel_rfl) rfl (L.litAgg rfl Tryz.underlying22 eL40 rfl rfl rfl ?_)))))))))))))
   intro b120
   refine L.nil (E.toV2 (stC [[7,10],[10]] [Cls w F [.sl (sv b120 1) 40 3 (([a1]).map TOp.row),.obj b1 [.int .i64 a1.Tx,.int .i64 a1.Kind,.int .i64 a1.Item] 40,.obj pb0 [kH,.map (some kF),.map (some kE),kC] 47,.mp kF (msrow kJ kA),.ss (msds kJ 40 3 TOp.row kA),.mp kE (mrow (VI .i64) kB),.sl kC 40 3 (kD.map TOp.row),.os []],Cls w F [.sl (sv b120 1) 40 3 (([a1]).map TOp.row),.obj b1 [.int .i64 a1.Tx,.int .i64 a1.Kind,.int .i64 a1.Item] 40,.obj pb0 [kH,.map (some kF),.map (some kE),kC] 47,.mp kF (msrow kJ kA),.ss (msds kJ 40 3 TOp.row kA),.mp kE (mrow (VI .i64) kB),.os []]] (Cls w F [.sl (sv b120 1) 40 3 (([a1]).map TOp.row),.obj b1 [.int .i64 a1.Tx,.int .i64 a1.Kind,.int .i64 a1.Item] 40,.mp kF (msrow kJ kA),.ss (msds kJ 40 3 TOp.row kA),.mp kE (mrow (VI .i64) kB),.os []])) 6 (by kernel_rfl) (Sc.stay (sI [1,2,3,4,5,6,7]) (Sc.stay (sI [1,2,3,4,5,6]) (Sc.stayD (sI [1,2,3,4,5])))) (Sc.now (by kernel_rfl) hI) (V2.eff (i:=7) (by kernel_rfl) rfl (L.appM (i:=6) (g:=TOp.row) (l:=kD) (more:=[a1]) h rfl Tryz.underlying22 eL40 rfl rfl rfl (fun w hw=>As.at_ (hw.get (i:=0) rfl)) (plain_TOp _) rfl ?_)))
   intro v121 l122 el122 h
   refine L.nil (E.toV2 (stC [[10]] [Cls w F [.sl v121 40 3 (l122.map TOp.row),.sl (sv b120 1) 40 3 (([a1]).map TOp.row),.obj b1 [.int .i64 a1.Tx,.int .i64 a1.Kind,.int .i64 a1.Item] 40,.obj pb0 [kH,.map (some kF),.map (some kE),kC] 47,.mp kF (msrow kJ kA),.ss (msds kJ 40 3 TOp.row kA),.mp kE (mrow (VI .i64) kB),.os []]] (Cls w F [.sl v121 40 3 (l122.map TOp.row),.sl (sv b120 1) 40 3 (([a1]).map TOp.row),.obj b1 [.int .i64 a1.Tx,.int .i64 a1.Kind,.int .i64 a1.Item] 40,.mp kF (msrow kJ kA),.ss (msds kJ 40 3 TOp.row kA),.mp kE (mrow (VI .i64) kB),.os []])) 7 (by kernel_rfl) (Sc.past rfl (Sc.stay (sI [1,2,3,4,5,6,7]) (Sc.stayD (sI [1,2,3,4,5,6])))) (Sc.now (by kernel_rfl) hI) (V2.zz [] (Zc.on' (Zc.fin hI) (sI [0,1,2,4,5,6,7])) (fun hz123=>(V2.r [8] (by kernel_rfl) rfl (V2.q 9 [] hz123 rfl rfl (Y.fieldP fd47_3 rfl) (V2.eff (i:=10) (by kernel_rfl) rfl (L.storeV (i:=3) sz22 rfl rfl (fun _ hw=>(As.at_ (hw.get (i:=0) rfl)).one) rfl nb (L.nil (E.toV2 (stC [] [] (Cls w F [.sl v121 40 3 (l122.map TOp.row),.sl (sv b120 1) 40 3 (([a1]).map TOp.row),.obj b1 [.int .i64 a1.Tx,.int .i64 a1.Kind,.int .i64 a1.Item] 40,.mp kF (msrow kJ kA),.ss (msds kJ 40 3 TOp.row kA),.mp kE (mrow (VI .i64) kB),.os []])) 10 (by kernel_rfl) (Sc.past rfl (Sc.stayD hI)) (Sc.atD (sI [0,1,2,4,5,6,7])) (V2.done (by kernel_rfl) (E.thenN (sr (L.r 1 rfl ?_)))))))))))))
   refine L.y rfl (Y.fieldP fd40_0 rfl) (L.y rfl (Y.loadP (i:=2) ag3 rfl rfl rfl) (L.to (D:=Cls w F [.obj pb0 [kH,.map (some kF),.map (some kE),v121] 47,.mp kF (msrow kJ kA),.ss (msds kJ 40 3 TOp.row kA),.mp kE (mrow (VI .i64) kB),.sl v121 40 3 (l122.map TOp.row),.sl (sv b120 1) 40 3 (([a1]).map TOp.row),.obj b1 [.int .i64 a1.Tx,.int .i64 a1.Kind,.int .i64 a1.Item] 40,.os []]) (sI [3,4,5,6,0,1,2,7]) ?_))
   obtain ⟨l124,l125,l126,l127,e128,h⟩:=bind4S h
   refine L.doesP (A:=[.obj pb0 [kH,.map (some kF),.map (some kE),v121] 47,.mp kF (msrow kJ kA),.ss (msds kJ 40 3 TOp.row kA),.mp kE (mrow (VI .i64) kB),.sl v121 40 3 (l122.map TOp.row)]) (M:=[.sl (sv b120 1) 40 3 (([a1]).map TOp.row),.obj b1 [.int .i64 a1.Tx,.int .i64 a1.Kind,.int .i64 a1.Item] 40,.os []]) rfl en17 rfl (fun w' hw=>W17 rec ih kI kA kB l122 a1.Tx pb0 kH kN kF kJ kE v121 (Kn K _) w' _ e128 _ (hK.knF hw rfl) hA0_locks.up.tok hD0_locks.up.tok hw.lend) ?_
   rintro _ _ ⟨c135,v129,q130,q133,v134,rfl,f131,f132,rfl⟩
   refine L.to (D:=Cls w F [.obj pb0 [v129,.map (some kF),.map (some kE),v134] 47,.mp kF (msrow q133 l125),.ss (msds q133 40 3 TOp.row l125),.mp kE (mrow (VI .i64) l126),.sl v134 40 3 (l127.map TOp.row),.os c135,.sl (sv b120 1) 40 3 (([a1]).map TOp.row),.obj b1 [.int .i64 a1.Tx,.int .i64 a1.Kind,.int .i64 a1.Item] 40,.os []]) hI (L.osJoin (K:=K) (i:=5) rfl rfl rfl ?_)
   intro c136 mo137 mn138 ma139
   refine L.to (D:=Cls w F [.obj pb0 [v129,.map (some kF),.map (some kE),v134] 47,.mp kF (msrow q133 l125),.ss (msds q133 40 3 TOp.row l125),.mp kE (mrow (VI .i64) l126),.sl v134 40 3 (l127.map TOp.row),.sl (sv b120 1) 40 3 (([a1]).map TOp.row),.obj b1 [.int .i64 a1.Tx,.int .i64 a1.Kind,.int .i64 a1.Item] 40,.os c136]) hI (ln (W.ret (E.KSR (E.ret0 rfl (fun w1 hw=>?_)))))
   cases h
   exact ⟨_,_,rfl,⟨c136,v129,q130,_,_,rfl,(mn138 f131),(ma139 f132),rfl⟩,hw.s [0,1,2,3,4,7]⟩
  exact ln (W.condF rfl (W.skip (E.jJ ⟨rfl,rfl,h⟩ hI)))
 rintro _ _ ⟨rfl,rfl,h⟩
 rw [M12K3] at h
 refine sr (L.r 1 rfl (ln (W.seqJ (fun gs D=>∃ gx1,gs=[(0,pt pb0 0),(3,pt b1 0),(6,.int .i64 gx1)]∧D=Cls w F [.obj b1 [.int .i64 a1.Tx,.int .i64 a1.Kind,.int .i64 a1.Item] 40,.obj pb0 [kH,.map (some kF),.map (some kE),kC] 47,.mp kF (msrow kJ kA),.ss (msds kJ 40 3 TOp.row kA),.mp kE (mrow (VI .i64) kB),.sl kC 40 3 (kD.map TOp.row),.os []]∧M12K4 kI a1 kD kA kB rec gx1=some r) ?_ ?_)))
 ·refine sr (L.y rfl (Y.fieldP fd40_1 rfl) (L.y rfl (Y.loadP (i:=0) ag3 rfl rfl rfl) (L.ite h rfl (Y.eql rfl rfl) (fun c107 h=>?_) (fun c107 h=>?_))))
  ·exact ln (W.condT rfl (W.region (L.r 1 rfl (L.nil (E.jJ ⟨5,rfl,rfl,h⟩ hI)))))
  exact ln (W.condF rfl (W.skip (E.jJ ⟨3,rfl,rfl,h⟩ hI)))
 rintro _ _ ⟨gx1,rfl,rfl,h⟩
 rw [M12K4] at h
 refine sr (L.r 1 rfl (ln (W.seqJ (fun gs D=>∃ gc2 gv3 gl4 gq5,∃ gu7 gu9:Unit,gs=[(0,pt pb0 0),(3,pt b1 0)]∧D=Cls w F [.obj b1 [.int .i64 a1.Tx,.int .i64 a1.Kind,.int .i64 a1.Item] 40,.obj pb0 [gv3,.map (some kF),.map (some kE),kC] 47,.mp kF (msrow kJ kA),.ss (msds kJ 40 3 TOp.row kA),.mp kE (mrow (VI .i64) kB),.sl kC 40 3 (kD.map TOp.row),.os gc2]∧Fz K gc2 gv3 3 (zr TI.rowv gq5 gl4)∧FzA K gc2 (zs TI.sds gq5 gl4)∧M12K5 rec kD kA a1 kB gl4=some r) ?_ ?_)))
 ·refine W.seq (W.drawn2 (k:=19) (stC [[10,17],[17]] [Cls w F [.obj b1 [.int .i64 a1.Tx,.int .i64 a1.Kind,.int .i64 a1.Item] 40,.obj pb0 [kH,.map (some kF),.map (some kE),kC] 47,.mp kF (msrow kJ kA),.ss (msds kJ 40 3 TOp.row kA),.mp kE (mrow (VI .i64) kB),.sl kC 40 3 (kD.map TOp.row),.os []],Cls w F [.obj b1 [.int .i64 a1.Tx,.int .i64 a1.Kind,.int .i64 a1.Item] 40,.obj pb0 [kH,.map (some kF),.map (some kE),kC] 47,.mp kF (msrow kJ kA),.ss (msds kJ 40 3 TOp.row kA),.mp kE (mrow (VI .i64) kB),.sl kC 40 3 (kD.map TOp.row)]] (Cls w F [.obj b1 [.int .i64 a1.Tx,.int .i64 a1.Kind,.int .i64 a1.Item] 40,.mp kF (msrow kJ kA),.ss (msds kJ 40 3 TOp.row kA),.mp kE (mrow (VI .i64) kB),.sl kC 40 3 (kD.map TOp.row)])) rfl mixed (fun _ hw=>hw.drew) (Sc.now (by kernel_rfl) hI) (V2.zz [] (Zc.on' (Zc.on' (Zc.fin hI) (sI [0,2,3,4,5])) (sI [0,2,3,4,5])) (fun hz73=>(V2.r [0,1,2] (by kernel_rfl) rfl (V2.q 3 [] hz73 rfl rfl (Y.fieldP fd47_0 rfl) (V2.zz [17] (Zc.on' (Zc.at1 hI) (sI [0,1,2,3,4,5])) (fun hz74=>(V2.q 4 [17] hz74 rfl rfl (Y.loadP (i:=1) ag34 rfl rfl rfl) (V2.q 5 [] hz73 rfl rfl (Y.fieldP fd40_0 rfl) (V2.q 6 [] hz73 rfl rfl (Y.loadP (i:=0) ag3 rfl rfl rfl) (V2.q 7 [] hz73 rfl rfl (Y.fieldP fd40_2 rfl) (V2.q 8 [] hz73 rfl rfl (Y.loadP (i:=0) ag3 rfl rfl rfl) (V2.r [9] (by kernel_rfl) rfl (V2.eff (i:=10) (by kernel_rfl) rfl ?_))))))))))))))
  obtain ⟨l75,b80,x81,e82,h⟩:=bind3S h
  refine L.doesFP rfl en18 rfl rfl hK (fun w' hw hs=>W18 kI a1.Tx a1.Item gx1 kH kN _ w' hs.f _ e82 hA0_locks.up.tok hD0_locks.up.tok) ?_
  rintro _ c83 c84 mo85 mn86 ma87 ⟨v76,q78,rfl,f77,f79⟩
  refine L.nil (E.toV2 (stC [[17]] [Cls w F [.obj b1 [.int .i64 a1.Tx,.int .i64 a1.Kind,.int .i64 a1.Item] 40,.obj pb0 [kH,.map (some kF),.map (some kE),kC] 47,.mp kF (msrow kJ kA),.ss (msds kJ 40 3 TOp.row kA),.mp kE (mrow (VI .i64) kB),.sl kC 40 3 (kD.map TOp.row)]] (Cls w F [.obj b1 [.int .i64 a1.Tx,.int .i64 a1.Kind,.int .i64 a1.Item] 40,.mp kF (msrow kJ kA),.ss (msds kJ 40 3 TOp.row kA),.mp kE (mrow (VI .i64) kB),.sl kC 40 3 (kD.map TOp.row)])) 10 (by kernel_rfl) (Sc.past rfl (Sc.stay hI (Sc.stayD hI))) (Sc.now (by kernel_rfl) (sI [0,1,2,3,4,5])) (V2.zz [] (Zc.on' (Zc.fin hI) (sI [0,2,3,4,5])) (fun hz88=>(V2.r [11,12] (by kernel_rfl) rfl (V2.iteB (i:=13) h (Nx2.of [] (by kernel_rfl) rfl hz88) rfl rfl rfl (Y.extract rfl rfl) (fun c89 h=>?_) (fun c89 h=>?_))))))
  ·refine V2.r [14,15] (by kernel_rfl) rfl (V2.q 16 [] hz88 rfl rfl (Y.fieldP fd47_0 rfl) (V2.eff (i:=17) (by kernel_rfl) rfl (L.storeV (i:=1) sz34 rfl rfl (fun _ hw=>((mn86 f77).clsP hK hw rfl).one) rfl nb (L.nil (E.toV2 (stC [] [] (Cls w F [.obj b1 [.int .i64 a1.Tx,.int .i64 a1.Kind,.int .i64 a1.Item] 40,.mp kF (msrow kJ kA),.ss (msds kJ 40 3 TOp.row kA),.mp kE (mrow (VI .i64) kB),.sl kC 40 3 (kD.map TOp.row)])) 17 (by kernel_rfl) (Sc.past rfl (Sc.stayD hI)) (Sc.atD (sI [0,2,3,4,5])) (V2.r [18] (by kernel_rfl) rfl (V2.done (by kernel_rfl) (E.thenN (sr (L.r 1 rfl (ln ?_)))))))))))
   refine W.condT rfl (W.seq (W.drawn2 (k:=11) (stC [[7,10],[10]] [Cls w F [.obj b1 [.int .i64 a1.Tx,.int .i64 a1.Kind,.int .i64 a1.Item] 40,.obj pb0 [v76,.map (some kF),.map (some kE),kC] 47,.mp kF (msrow kJ kA),.ss (msds kJ 40 3 TOp.row kA),.mp kE (mrow (VI .i64) kB),.sl kC 40 3 (kD.map TOp.row),.os c84],Cls w F [.obj b1 [.int .i64 a1.Tx,.int .i64 a1.Kind,.int .i64 a1.Item] 40,.obj pb0 [v76,.map (some kF),.map (some kE),kC] 47,.mp kF (msrow kJ kA),.ss (msds kJ 40 3 TOp.row kA),.mp kE (mrow (VI .i64) kB),.os c84]] (Cls w F [.obj b1 [.int .i64 a1.Tx,.int .i64 a1.Kind,.int .i64 a1.Item] 40,.mp kF (msrow kJ kA),.ss (msds kJ 40 3 TOp.row kA),.mp kE (mrow (VI .i64) kB),.os c84])) rfl mixed (fun _ hw=>hw.drew) (Sc.now (by kernel_rfl) hI) (V2.zz [] (Zc.on' (Zc.on' (Zc.fin hI) (sI [0,2,3,4,5])) (sI [0,2,3,4,6])) (fun hz100=>(V2.r [0,1,2] (by kernel_rfl) rfl (V2.q 3 [] hz100 rfl rfl (Y.fieldP fd47_3 rfl) (V2.zz [10] (Zc.on' (Zc.at1 hI) (sI [0,1,2,3,4,6])) (fun hz101=>(V2.q 4 [10] hz101 rfl rfl (Y.loadP (i:=1) ag22 rfl rfl rfl) (V2.q 5 [] hz100 rfl rfl (Y.loadPW (i:=0) ag40 sz40 rfl rfl rfl) (V2.eff (i:=6) (by kernel_rfl) rfl (L.litAgg rfl Tryz.underlying22 eL40 rfl rfl rfl ?_))))))))))))
   intro b102
   refine L.nil (E.toV2 (stC [[7,10],[10]] [Cls w F [.sl (sv b102 1) 40 3 (([a1]).map TOp.row),.obj b1 [.int .i64 a1.Tx,.int .i64 a1.Kind,.int .i64 a1.Item] 40,.obj pb0 [v76,.map (some kF),.map (some kE),kC] 47,.mp kF (msrow kJ kA),.ss (msds kJ 40 3 TOp.row kA),.mp kE (mrow (VI .i64) kB),.sl kC 40 3 (kD.map TOp.row),.os c84],Cls w F [.sl (sv b102 1) 40 3 (([a1]).map TOp.row),.obj b1 [.int .i64 a1.Tx,.int .i64 a1.Kind,.int .i64 a1.Item] 40,.obj pb0 [v76,.map (some kF),.map (some kE),kC] 47,.mp kF (msrow kJ kA),.ss (msds kJ 40 3 TOp.row kA),.mp kE (mrow (VI .i64) kB),.os c84]] (Cls w F [.sl (sv b102 1) 40 3 (([a1]).map TOp.row),.obj b1 [.int .i64 a1.Tx,.int .i64 a1.Kind,.int .i64 a1.Item] 40,.mp kF (msrow kJ kA),.ss (msds kJ 40 3 TOp.row kA),.mp kE (mrow (VI .i64) kB),.os c84])) 6 (by kernel_rfl) (Sc.stay (sI [1,2,3,4,5,6,7]) (Sc.stay (sI [1,2,3,4,5,6]) (Sc.stayD (sI [1,2,3,4,5])))) (Sc.now (by kernel_rfl) hI) (V2.eff (i:=7) (by kernel_rfl) rfl (L.appM (i:=6) (g:=TOp.row) (l:=kD) (more:=[a1]) h rfl Tryz.underlying22 eL40 rfl rfl rfl (fun w hw=>As.at_ (hw.get (i:=0) rfl)) (plain_TOp _) rfl ?_)))
   intro v103 l104 el104 h
   refine L.nil (E.toV2 (stC [[10]] [Cls w F [.sl v103 40 3 (l104.map TOp.row),.sl (sv b102 1) 40 3 (([a1]).map TOp.row),.obj b1 [.int .i64 a1.Tx,.int .i64 a1.Kind,.int .i64 a1.Item] 40,.obj pb0 [v76,.map (some kF),.map (some kE),kC] 47,.mp kF (msrow kJ kA),.ss (msds kJ 40 3 TOp.row kA),.mp kE (mrow (VI .i64) kB),.os c84]] (Cls w F [.sl v103 40 3 (l104.map TOp.row),.sl (sv b102 1) 40 3 (([a1]).map TOp.row),.obj b1 [.int .i64 a1.Tx,.int .i64 a1.Kind,.int .i64 a1.Item] 40,.mp kF (msrow kJ kA),.ss (msds kJ 40 3 TOp.row kA),.mp kE (mrow (VI .i64) kB),.os c84])) 7 (by kernel_rfl) (Sc.past rfl (Sc.stay (sI [1,2,3,4,5,6,7]) (Sc.stayD (sI [1,2,3,4,5,6])))) (Sc.now (by kernel_rfl) hI) (V2.zz [] (Zc.on' (Zc.fin hI) (sI [0,1,2,4,5,6,7])) (fun hz105=>(V2.r [8] (by kernel_rfl) rfl (V2.q 9 [] hz105 rfl rfl (Y.fieldP fd47_3 rfl) (V2.eff (i:=10) (by kernel_rfl) rfl (L.storeV (i:=3) sz22 rfl rfl (fun _ hw=>(As.at_ (hw.get (i:=0) rfl)).one) rfl nb (L.nil (E.toV2 (stC [] [] (Cls w F [.sl v103 40 3 (l104.map TOp.row),.sl (sv b102 1) 40 3 (([a1]).map TOp.row),.obj b1 [.int .i64 a1.Tx,.int .i64 a1.Kind,.int .i64 a1.Item] 40,.mp kF (msrow kJ kA),.ss (msds kJ 40 3 TOp.row kA),.mp kE (mrow (VI .i64) kB),.os c84])) 10 (by kernel_rfl) (Sc.past rfl (Sc.stayD hI)) (Sc.atD (sI [0,1,2,4,5,6,7])) (V2.done (by kernel_rfl) (E.thenN (W.ret (E.KSR (E.ret0 rfl (fun w1 hw=>?_)))))))))))))))
   cases h
   exact ⟨_,_,rfl,⟨c84,v76,q78,_,_,rfl,(mn86 f77),(ma87 f79),rfl⟩,hw.s [3,4,5,6,0,7]⟩
  refine V2.r [14,15] (by kernel_rfl) rfl (V2.q 16 [] hz88 rfl rfl (Y.fieldP fd47_0 rfl) (V2.eff (i:=17) (by kernel_rfl) rfl (L.storeV (i:=1) sz34 rfl rfl (fun _ hw=>((mn86 f77).clsP hK hw rfl).one) rfl nb (L.nil (E.toV2 (stC [] [] (Cls w F [.obj b1 [.int .i64 a1.Tx,.int .i64 a1.Kind,.int .i64 a1.Item] 40,.mp kF (msrow kJ kA),.ss (msds kJ 40 3 TOp.row kA),.mp kE (mrow (VI .i64) kB),.sl kC 40 3 (kD.map TOp.row)])) 17 (by kernel_rfl) (Sc.past rfl (Sc.stayD hI)) (Sc.atD (sI [0,2,3,4,5])) (V2.r [18] (by kernel_rfl) rfl (V2.done (by kernel_rfl) (E.thenN (sr (L.r 1 rfl (ln ?_)))))))))))
  exact W.condF rfl (W.skip (E.jJ ⟨c84,v76,l75,q78,(),(),rfl,rfl,(mn86 f77),(ma87 f79),h⟩ hI))
 rintro _ _ ⟨gc2,gv3,gl4,gq5,gu7,gu9,rfl,rfl,hG6,hG8,h⟩
 rw [M12K5] at h
 refine W.seq (W.drawn2 (k:=9) (stC [[8]] [Cls w F [.obj b1 [.int .i64 a1.Tx,.int .i64 a1.Kind,.int .i64 a1.Item] 40,.obj pb0 [gv3,.map (some kF),.map (some kE),kC] 47,.mp kF (msrow kJ kA),.ss (msds kJ 40 3 TOp.row kA),.mp kE (mrow (VI .i64) kB),.sl kC 40 3 (kD.map TOp.row),.os gc2]] (Cls w F [.obj b1 [.int .i64 a1.Tx,.int .i64 a1.Kind,.int .i64 a1.Item] 40,.obj pb0 [gv3,.map (some kF),.map (some kE),kC] 47,.mp kE (mrow (VI .i64) kB),.sl kC 40 3 (kD.map TOp.row),.os gc2])) rfl mixed (fun _ hw=>hw.drew) (Sc.now (by kernel_rfl) hI) (V2.zz [] (Zc.on' (Zc.fin hI) (sI [0,1,4,5,6])) (fun hz11=>(V2.r [0,1] (by kernel_rfl) rfl (V2.q 2 [] hz11 rfl rfl (Y.fieldP fd47_1 rfl) (V2.q 3 [] hz11 rfl rfl (Y.loadP (i:=1) ag44 rfl rfl rfl) (V2.q 4 [] hz11 rfl rfl (Y.fieldP fd40_0 rfl) (V2.q 5 [] hz11 rfl rfl (Y.loadP (i:=0) ag3 rfl rfl rfl) (V2.q 6 [] hz11 rfl rfl (Y.loadPW (i:=0) ag40 sz40 rfl rfl rfl) (V2.eff (i:=7) (by kernel_rfl) rfl (L.litAgg rfl Tryz.underlying22 eL40 rfl rfl rfl ?_)))))))))))
 intro b12
 refine L.nil (E.toV2 (stC [[8]] [Cls w F [.sl (sv b12 1) 40 3 (([a1]).map TOp.row),.obj b1 [.int .i64 a1.Tx,.int .i64 a1.Kind,.int .i64 a1.Item] 40,.obj pb0 [gv3,.map (some kF),.map (some kE),kC] 47,.mp kF (msrow kJ kA),.ss (msds kJ 40 3 TOp.row kA),.mp kE (mrow (VI .i64) kB),.sl kC 40 3 (kD.map TOp.row),.os gc2]] (Cls w F [.obj b1 [.int .i64 a1.Tx,.int .i64 a1.Kind,.int .i64 a1.Item] 40,.obj pb0 [gv3,.map (some kF),.map (some kE),kC] 47,.mp kE (mrow (VI .i64) kB),.sl kC 40 3 (kD.map TOp.row),.os gc2])) 7 (by kernel_rfl) (Sc.stay (sI [1,2,3,4,5,6,7]) (Sc.stayD hI)) (Sc.now (by kernel_rfl) hI) (V2.eff (i:=8) (by kernel_rfl) rfl (L.msPut (i:=3) (j:=4) (p:=0) (a:=a1.Tx) (us:=kJ) (l:=kA) (x1:=[a1]) (row:=TOp.row) Tryz.underlying44 Tryz.underlying3 rfl rfl rfl rfl rfl (.inl rfl) rfl ?_)))
 intro q13
 refine L.to (D:=Cls w F [.obj b1 [.int .i64 a1.Tx,.int .i64 a1.Kind,.int .i64 a1.Item] 40,.obj pb0 [gv3,.map (some kF),.map (some kE),kC] 47,.mp kF (msrow q13 (mset kA a1.Tx ([a1]))),.ss (msds q13 40 3 TOp.row (mset kA a1.Tx ([a1]))),.mp kE (mrow (VI .i64) kB),.sl kC 40 3 (kD.map TOp.row),.os gc2]) hI (L.nil (E.toV2 (stC [] [] (Cls w F [.obj b1 [.int .i64 a1.Tx,.int .i64 a1.Kind,.int .i64 a1.Item] 40,.obj pb0 [gv3,.map (some kF),.map (some kE),kC] 47,.mp kE (mrow (VI .i64) kB),.sl kC 40 3 (kD.map TOp.row),.os gc2])) 8 (by kernel_rfl) (Sc.past rfl (Sc.stayD hI)) (Sc.atD (sI [0,1,4,5,6])) (V2.done (by kernel_rfl) (E.thenN (W.block (W.loopJ (fun m gs D=>∃ gc10 gv11 gl12 gq13,∃ gu15 gu17:Unit,∃ gv18 gl19 gl20 gq21 gl22,gs=[(0,pt pb0 0)]∧D=Cls w F [.obj pb0 [gv11,.map (some kF),.map (some kE),gv18] 47,.mp kF (msrow gq21 gl20),.ss (msds gq21 40 3 TOp.row gl20),.mp kE (mrow (VI .i64) gl22),.sl gv18 40 3 (gl19.map TOp.row),.os gc10]∧Fz K gc10 gv11 3 (zr TI.rowv gq13 gl12)∧FzA K gc10 (zs TI.sds gq13 gl12)∧M12L1 rec m gl12 gl19 gl20 gl22=some r) ⟨gc2,gv3,gl4,gq5,(),(),kC,kD,(mset kA a1.Tx ([a1])),q13,kB,rfl,rfl,hG6,hG8,h⟩ ⟨rfl,trivial⟩ (sI [1,2,3,4,5,6]) ?_))))))
 rintro m _ _ ⟨gc10,gv11,gl12,gq13,gu15,gu17,gv18,gl19,gl20,gq21,gl22,rfl,rfl,hG14,hG16,h⟩
 rcases m with _ | m
 ·rw [M12L1] at h;cases h
 rw [M12L1] at h
 generalize hg1:M12L1 rec m=go1 at h
 rw [M12L1B] at h
 refine W.block (sr (L.r 2 rfl (L.y rfl (Y.fieldP fd47_0 rfl) (L.y rfl (Y.loadP (i:=0) ag34 rfl rfl rfl) ?_))))
 obtain ⟨l14,e16,h⟩:=bind1S h
 refine L.does rfl en20 rfl (fun w' hw=>W20 gl12 gv11 gq13 w' _ e16 (hG14.clsP hK hw rfl) (hG16.clsP hK hw rfl)) ?_
 rintro v15 _ ⟨_,rfl,rfl⟩
 obtain ⟨l17,e19,h⟩:=bind1S h
 refine L.does rfl en19 rfl (fun w' hw=>W19 12 l14 v15 w' _ e19 (As.at_ (hw.get (i:=0) rfl))) ?_
 rintro v18 _ ⟨_,rfl,rfl⟩
 refine L.r 1 rfl (ln (W.seqJ (fun gs D=>gs=[(0,pt pb0 0),(8,v18)]∧D=Cls w F [.obj pb0 [gv11,.map (some kF),.map (some kE),gv18] 47,.mp kF (msrow gq21 gl20),.ss (msds gq21 40 3 TOp.row gl20),.mp kE (mrow (VI .i64) gl22),.sl v18 3 1 (l17.map I),.sl gv18 40 3 (gl19.map TOp.row),.os gc10]∧M12K6 l17 gl22 gl19 rec gl12 gl20 go1=some r) ?_ ?_))
 ·refine sr (L.r 1 rfl (L.y rfl (Y.lenM (g:=I) (l:=l17) Tryz.underlying23 rfl (fun w hw=>As.at_ (hw.get (i:=0) rfl))) (L.ite h rfl (Y.eql rfl rfl) (fun c42 h=>?_) (fun c42 h=>?_))))
  ·refine ln (W.condT rfl (W.ret (E.KSR (E.blockR (E.KLR (E.blockR (E.ret0 rfl (fun w1 hw=>?_))))))))
   cases h
   exact ⟨_,_,rfl,⟨gc10,gv11,gq13,_,_,rfl,hG14,hG16,rfl⟩,hw.s [2,3,4,5,6,7]⟩
  exact ln (W.condF rfl (W.skip (E.jJ ⟨rfl,rfl,h⟩ (sI [2,3,4,5,0,6,7]))))
 rintro _ _ ⟨rfl,rfl,h⟩
 rw [M12K6] at h
 refine sr (L.r 1 rfl ?_)
 obtain ⟨x20,e21,h⟩:=bind1S h
 refine L.y rfl (Y.does en21 rfl (fun w' hw=>(W21 l17 v18 w' _ e21 (As.at_ (hw.get (i:=4) rfl))).mono (fun _ _ h=>h.1))) (L.r 1 rfl (nsr (L.r 2 rfl (L.y rfl (Y.fieldP fd47_2 rfl) (L.y rfl (Y.loadP (i:=0) ag45 rfl rfl rfl) (L.r 1 rfl (L.mapSet (i:=3) (g:=(VI .i64)) (lm:=gl22) (v0:=1) Tryz.underlying45 Tryz.underlying3 rfl rfl rfl rfl ?_)))))))
 obtain ⟨l22,el22,h⟩:=bind1S h
 obtain rfl:=Option.some.inj el22
 refine nsr (L.r 2 rfl (L.y rfl (Y.fieldP fd47_1 rfl) (L.y rfl (Y.loadP (i:=0) ag44 rfl rfl rfl) (L.r 1 rfl (L.msDel (i:=1) (j:=2) (us:=gq21) (l:=gl20) (row:=TOp.row) Tryz.underlying44 Tryz.underlying3 rfl rfl rfl rfl (.inl rfl) (nsr (L.r 3 rfl ?_)))))))
 refine L.y rfl (Y.fieldP fd47_3 rfl) (L.y rfl (Y.loadP (i:=0) ag22 rfl rfl rfl) (L.r 1 rfl (L.y rfl (Y.build (cells:=#[.int .i64 x20,.int .i64 4,.int .i64 0]) rfl (by kernel_rfl)) (L.litAgg rfl Tryz.underlying22 eL40 rfl rfl rfl ?_))))
 intro b23
 refine L.appM (i:=6) (g:=TOp.row) (l:=gl19) (more:=[(⟨x20,4,0⟩:TOp)]) h rfl Tryz.underlying22 eL40 rfl rfl rfl (fun w hw=>As.at_ (hw.get (i:=0) rfl)) (plain_TOp _) rfl ?_
 intro v24 l25 el25 h
 refine L.r 1 rfl (L.y rfl (Y.fieldP fd47_3 rfl) (L.storeV (i:=2) sz22 rfl rfl (fun _ hw=>(As.at_ (hw.get (i:=0) rfl)).one) rfl nb (nr (L.r 2 rfl (L.to (D:=Cls w F [.obj pb0 [gv11,.map (some kF),.map (some kE),v24] 47,.mp kF (msrow gq21 (mdel gl20 x20)),.ss (msds gq21 40 3 TOp.row (mdel gl20 x20)),.mp kE (mrow (VI .i64) (mset gl22 x20 1)),.sl v24 40 3 (l25.map TOp.row),.sl (sv b23 1) 40 3 (([(⟨x20,4,0⟩:TOp)]).map TOp.row),.sl v18 3 1 (l17.map I),.os gc10]) (sI [2,3,4,5,0,1,6,7]) ?_)))))
 obtain ⟨l26,l27,l28,l29,e30,h⟩:=bind4S h
 refine L.doesP (A:=[.obj pb0 [gv11,.map (some kF),.map (some kE),v24] 47,.mp kF (msrow gq21 (mdel gl20 x20)),.ss (msds gq21 40 3 TOp.row (mdel gl20 x20)),.mp kE (mrow (VI .i64) (mset gl22 x20 1)),.sl v24 40 3 (l25.map TOp.row)]) (M:=[.sl (sv b23 1) 40 3 (([(⟨x20,4,0⟩:TOp)]).map TOp.row),.sl v18 3 1 (l17.map I),.os gc10]) rfl en17 rfl (fun w' hw=>W17 rec ih gl12 (mdel gl20 x20) (mset gl22 x20 1) l25 x20 pb0 gv11 gq13 kF gq21 kE v24 (Kn K _) w' _ e30 _ (hK.knF hw rfl) hG14.tok hG16.tok hw.lend) ?_
 rintro _ _ ⟨c37,v31,q32,q35,v36,rfl,f33,f34,rfl⟩
 refine L.to (D:=Cls w F [.obj pb0 [v31,.map (some kF),.map (some kE),v36] 47,.mp kF (msrow q35 l27),.ss (msds q35 40 3 TOp.row l27),.mp kE (mrow (VI .i64) l28),.sl v36 40 3 (l29.map TOp.row),.os c37,.sl (sv b23 1) 40 3 (([(⟨x20,4,0⟩:TOp)]).map TOp.row),.sl v18 3 1 (l17.map I),.os gc10]) hI (L.osJoin (K:=K) (i:=5) rfl rfl rfl ?_)
 intro c38 mo39 mn40 ma41
 exact L.to (D:=Cls w F [.obj pb0 [v31,.map (some kF),.map (some kE),v36] 47,.mp kF (msrow q35 l27),.ss (msds q35 40 3 TOp.row l27),.mp kE (mrow (VI .i64) l28),.sl v36 40 3 (l29.map TOp.row),.sl (sv b23 1) 40 3 (([(⟨x20,4,0⟩:TOp)]).map TOp.row),.sl v18 3 1 (l17.map I),.os c38]) hI (L.nil (E.blockN (E.aJ ⟨c38,v31,l26,q32,(),(),v36,l29,l27,q35,l28,rfl,rfl,(mn40 f33),(ma41 f34),by rw [hg1];exact h⟩ (sI [0,1,2,3,4,7]))))
theorem W12 (kI:(List TI)) (kA:(List (Int×(List TOp)))) (kB:(List (Int×Int))) (kD:(List TOp)) (a1:TOp) (pb0:Nat) (kH:Value) (kN:Nat→List Value) (kF:Nat) (kJ:Int→Value) (kE:Nat) (kC:Value) (K:World→Prop) (w:World) (r:((List TI)×(List (Int×(List TOp)))×(List (Int×Int))×(List TOp))) (h:M12 kI kA kB kD a1=some r) (F:List Nat) (hK:StbF K w F) (hA0_locks:Fz K [] kH 3 (zr TI.rowv kN kI)) (hD0_locks:FzA K [] (zs TI.sds kN kI)) (hc0:Cls w F [.obj pb0 [kH,.map (some kF),.map (some kE),kC] 47,.mp kF (msrow kJ kA),.ss (msds kJ 40 3 TOp.row kA),.mp kE (mrow (VI .i64) kB),.sl kC 40 3 (kD.map TOp.row)] w):DoesF Tryz.prog 12 [pt pb0 0,.agg #[.int .i64 a1.Tx,.int .i64 a1.Kind,.int .i64 a1.Item]] F w fun u m=>∃ c,∃ y1 z1 z2 y4,u=.tuple #[]∧Fz K c y1 3 (zr TI.rowv z1 r.1)∧FzA K c (zs TI.sds z1 r.1)∧m=[.obj pb0 [y1,.map (some kF),.map (some kE),y4] 47,.mp kF (msrow z2 r.2.1),.ss (msds z2 40 3 TOp.row r.2.1),.mp kE (mrow (VI .i64) r.2.2.1),.sl y4 40 3 (r.2.2.2.map TOp.row),.os c]:=W12a big kI kA kB kD a1 pb0 kH kN kF kJ kE kC K w r h F hK hA0_locks hD0_locks hc0
set_option maxRecDepth 100000 in
set_option maxHeartbeats 8000000 in
theorem W7 (a0:(List TOp)) (u0:Value) (K:World→Prop) (w:World) (hK:StbF K w []) (r:TPlayed) (h:M7 a0=some r) (hA0:Fz K [] u0 3 (a0.map TOp.row)):Does Tryz.prog 7 [u0] w fun u m=>∃ c,m=[.os c]∧∃ v0 v1 v2,u=.agg #[v0,v1,v2]∧Fz K c v0 3 (r.Run.map TOp.row)∧Fz K c v1 1 (r.Dead.map I)∧Fz K c v2 1 (r.Late.map I):=by
 rw [M7] at h
 refine body (n:=55) Tryz.func7 rfl rfl rfl (Cls.reflF w) (sr (L.alloc rfl ze25 ?_))
 intro b1
 refine nsr (L.msNew (fun _=>.slice none 0 0) 40 3 TOp.row rfl ?_)
 intro b2
 refine L.makeMap rfl ?_
 intro b3
 refine L.y rfl (Y.build (cells:=#[.slice none 0 0,.map (some b2),.map (some b3),.slice none 0 0]) rfl (by kernel_rfl)) (L.alloc rfl ze47 ?_)
 intro b4
 refine L.store (i:=0) (vs:=[.slice none 0 0,.map (some b2),.map (some b3),.slice none 0 0]) sz47 rfl rfl rfl rfl (by simp [Value.oneCell',Value.cells,st,pt,el]) rfl nb (ln (W.seqJ (fun gs D=>∃ gc1 gv2 gl3 gq4,∃ gu6 gu8:Unit,∃ gv9 gl10 gl11 gl12 gq13,gs=[(2,pt b1 0),(3,pt b4 0)]∧D=Cls w [] [.obj b4 [gv2,.map (some b2),.map (some b3),gv9] 47,.mp b3 (mrow (VI .i64) gl11),.mp b2 (msrow gq13 gl12),.ss (msds gq13 40 3 TOp.row gl12),.obj b1 [.slice none 0 0,.slice none 0 0,.slice none 0 0] 25,.sl gv9 40 3 (gl10.map TOp.row),.os gc1]∧Fz K gc1 gv2 3 (zr TI.rowv gq4 gl3)∧FzA K gc1 (zs TI.sds gq4 gl3)∧M7K1 gl3 gl10 gl11 gl12=some r) ?_ ?_))
 ·refine sr (L.r 1 rfl (L.y rfl (Y.lenM (g:=TOp.row) (l:=a0) Tryz.underlying22 rfl (fun w' hw=>(hA0.up.clsP hK hw rfl))) (L.r 1 rfl (ln (W.block (W.nilSl 40 3 (W.loopJ (fun m gs D=>∃ gc25 gx26 gv27 gl28 gq29,∃ gu31 gu33:Unit,∃ gv34 gl35 gl36 gl37 gq38,gs=[(2,pt b1 0),(3,pt b4 0),(13,u0),(14,.int .i64 (a0.length:Int)),(15,.int .i64 gx26)]∧D=Cls w [] [.obj b4 [gv27,.map (some b2),.map (some b3),gv34] 47,.mp b3 (mrow (VI .i64) gl36),.mp b2 (msrow gq38 gl37),.ss (msds gq38 40 3 TOp.row gl37),.obj b1 [.slice none 0 0,.slice none 0 0,.slice none 0 0] 25,.sl gv34 40 3 (gl35.map TOp.row),.os gc25]∧Fz K gc25 gv27 3 (zr TI.rowv gq29 gl28)∧FzA K gc25 (zs TI.sds gq29 gl28)∧M7L2 a0 m gx26 gl28 gl35 gl36 gl37=some r) ⟨[],0,.slice none 0 0,[],(fun _=>[]),(),(),.slice none 0 0,[],[],[],(fun _=>.slice none 0 0),rfl,rfl,Fz.nil,FzA.nil,h⟩ ⟨rfl,rfl,rfl,rfl,rfl,trivial⟩ (sI [1,2,3,4,5,0,6]) ?_)))))))
  rintro m _ _ ⟨gc25,gx26,gv27,gl28,gq29,gu31,gu33,gv34,gl35,gl36,gl37,gq38,rfl,rfl,hG30,hG32,h⟩
  rcases m with _ | m
  ·rw [M7L2] at h;cases h
  rw [M7L2] at h
  generalize hg2:M7L2 a0 m=go2 at h
  rw [M7L2B] at h
  refine sr (L.ite h rfl (Y.lss rfl rfl) (fun c26 h=>?_) (fun c26 h=>?_))
  ·refine ln (W.seq (W.condT rfl (W.skip (E.thenN (W.seq (W.block (sr (L.m (V:=fun _=>el u0 (gx26.toNat*3)) h rfl (Y.indexM (g:=TOp.row) (l:=a0) Tryz.underlying22 sz40 rfl rfl (fun w' hw=>(hA0.up.clsP hK hw rfl))) (fun x27 ex27 h=>(L.y rfl (Y.loadEN (r:=[.int .i64 x27.Tx,.int .i64 x27.Kind,.int .i64 x27.Item]) ag40 sz40 rfl (fun w' hw=>(hA0.up.clsP hK hw rfl)) (idx_map ex27) rfl) (L.alloc rfl ze40 ?_)))))))))))
   intro b28
   refine L.store (i:=0) (vs:=[.int .i64 x27.Tx,.int .i64 x27.Kind,.int .i64 x27.Item]) sz40 rfl rfl rfl rfl (by simp [Value.oneCell',Value.cells,st,pt,el]) rfl nb (nr (L.y rfl (Y.loadPW (i:=0) ag40 sz40 rfl rfl rfl) (L.to (D:=Cls w [] [.obj b4 [gv27,.map (some b2),.map (some b3),gv34] 47,.mp b2 (msrow gq38 gl37),.ss (msds gq38 40 3 TOp.row gl37),.mp b3 (mrow (VI .i64) gl36),.sl gv34 40 3 (gl35.map TOp.row),.obj b28 [.int .i64 x27.Tx,.int .i64 x27.Kind,.int .i64 x27.Item] 40,.obj b1 [.slice none 0 0,.slice none 0 0,.slice none 0 0] 25,.os gc25]) (sI [1,3,4,2,6,0,5,7]) ?_)))
   obtain ⟨l29,l30,l31,l32,e33,h⟩:=bind4S h
   refine L.doesP (A:=[.obj b4 [gv27,.map (some b2),.map (some b3),gv34] 47,.mp b2 (msrow gq38 gl37),.ss (msds gq38 40 3 TOp.row gl37),.mp b3 (mrow (VI .i64) gl36),.sl gv34 40 3 (gl35.map TOp.row)]) (M:=[.obj b28 [.int .i64 x27.Tx,.int .i64 x27.Kind,.int .i64 x27.Item] 40,.obj b1 [.slice none 0 0,.slice none 0 0,.slice none 0 0] 25,.os gc25]) rfl en12 rfl (fun w' hw=>W12 gl28 gl37 gl36 gl35 x27 b4 gv27 gq29 b2 gq38 b3 gv34 (Kn K _) w' _ e33 _ (hK.knF hw rfl) hG30.tok hG32.tok hw.lend) ?_
   rintro _ _ ⟨c40,v34,q35,q38,v39,rfl,f36,f37,rfl⟩
   refine L.to (D:=Cls w [] [.obj b4 [v34,.map (some b2),.map (some b3),v39] 47,.mp b2 (msrow q38 l30),.ss (msds q38 40 3 TOp.row l30),.mp b3 (mrow (VI .i64) l31),.sl v39 40 3 (l32.map TOp.row),.os c40,.obj b28 [.int .i64 x27.Tx,.int .i64 x27.Kind,.int .i64 x27.Item] 40,.obj b1 [.slice none 0 0,.slice none 0 0,.slice none 0 0] 25,.os gc25]) hI (L.osJoin (K:=K) (i:=5) rfl rfl rfl ?_)
   intro c41 mo42 mn43 ma44
   exact L.to (D:=Cls w [] [.obj b4 [v34,.map (some b2),.map (some b3),v39] 47,.mp b2 (msrow q38 l30),.ss (msds q38 40 3 TOp.row l30),.mp b3 (mrow (VI .i64) l31),.sl v39 40 3 (l32.map TOp.row),.obj b28 [.int .i64 x27.Tx,.int .i64 x27.Kind,.int .i64 x27.Item] 40,.obj b1 [.slice none 0 0,.slice none 0 0,.slice none 0 0] 25,.os c41]) hI (L.nil (E.blockN (E.thenN (W.region (L.m (V:=fun x45=>.int .i64 x45) h rfl (Y.addM rfl rfl) (fun x45 ex45 h=>(L.r 1 rfl (L.nil (E.aJ ⟨c41,x45,v34,l29,q35,(),(),v39,l32,l31,l30,q38,rfl,rfl,(mn43 f36),(ma44 f37),by rw [hg2];exact h⟩ (sI [0,3,1,2,6,4,7]))))))))))
  exact ln (W.seq (W.condF rfl (W.exit (E.thenX (E.KLX (E.blockX (E.jJ ⟨gc25,gv27,gl28,gq29,(),(),gv34,gl35,gl36,gl37,gq38,rfl,rfl,hG30,hG32,h⟩ hI)))))))
 rintro _ _ ⟨gc1,gv2,gl3,gq4,gu6,gu8,gv9,gl10,gl11,gl12,gq13,rfl,rfl,hG5,hG7,h⟩
 rw [M7K1] at h
 refine sr (L.y rfl (Y.fieldP fd47_3 rfl) (L.y rfl (Y.loadP (i:=0) ag22 rfl rfl rfl) (L.y rfl (Y.buildC (cells:=#[gv9,.slice none 0 0,.slice none 0 0]) rfl (fun w hw=>by rcases ((As.at_ (hw.get (i:=5) rfl))).shape with ⟨h0,_⟩ | ⟨_,_,h0,_,_⟩ <;> simp only [h0] <;> kernel_rfl)) (L.alloc rfl ze25 ?_))))
 intro b5
 refine L.storeC (i:=0) sz25 rfl rfl rfl rfl (fun w hw=>(all1 (As.at_ (hw.get (i:=6) rfl)).one (all1 rfl (all1 rfl all0)))) rfl nb (ln (W.seqJ (fun gs D=>∃ gv14 gl15 gv16 gl17,gs=[(2,pt b1 0),(6,pt b5 0)]∧D=Cls w [] [.obj b5 [gv9,gv14,gv16] 25,.obj b1 [.slice none 0 0,.slice none 0 0,.slice none 0 0] 25,.sl gv9 40 3 (gl10.map TOp.row),.sl gv14 3 1 (gl15.map I),.sl gv16 3 1 (gl17.map I),.os gc1]∧M7K2 gl10 gl15 gl17=some r) ?_ ?_))
 ·refine sr (L.r 1 rfl (ln (W.block (W.nilSl 3 1 (W.nilSl 3 1 (W.loopJ (fun m gs D=>∃ gx18 gv19 gl20 gv21 gl22,gs=[(2,pt b1 0),(3,pt b4 0),(6,pt b5 0),(25,.int .i64 gx18)]∧D=Cls w [] [.obj b5 [gv9,gv19,gv21] 25,.obj b4 [gv2,.map (some b2),.map (some b3),gv9] 47,.mp b3 (mrow (VI .i64) gl11),.mp b2 (msrow gq13 gl12),.ss (msds gq13 40 3 TOp.row gl12),.obj b1 [.slice none 0 0,.slice none 0 0,.slice none 0 0] 25,.sl gv9 40 3 (gl10.map TOp.row),.sl gv19 3 1 (gl20.map I),.sl gv21 3 1 (gl22.map I),.os gc1]∧M7L1 gl11 gl12 gl10 m gx18 gl20 gl22=some r) ⟨0,.slice none 0 0,[],.slice none 0 0,[],rfl,rfl,h⟩ ⟨rfl,rfl,rfl,rfl,trivial⟩ (sI [2,3,4,5,6,7,8,1,0,9]) ?_))))))
  rintro m _ _ ⟨gx18,gv19,gl20,gv21,gl22,rfl,rfl,h⟩
  rcases m with _ | m
  ·rw [M7L1] at h;cases h
  rw [M7L1] at h
  generalize hg1:M7L1 gl11 gl12 gl10 m=go1 at h
  rw [M7L1B] at h
  refine sr (L.ite h rfl (Y.lss rfl rfl) (fun c15 h=>?_) (fun c15 h=>?_))
  ·refine ln (W.seq (W.condT rfl (W.skip (E.thenN (W.seq (W.block (sr (L.r 2 rfl (ln (W.seqJ (fun gs D=>∃ gv23 gl24,gs=[(2,pt b1 0),(3,pt b4 0),(6,pt b5 0),(7,.int .i64 gx18),(25,.int .i64 gx18)]∧D=Cls w [] [.obj b5 [gv9,gv23,gv21] 25,.obj b4 [gv2,.map (some b2),.map (some b3),gv9] 47,.mp b3 (mrow (VI .i64) gl11),.mp b2 (msrow gq13 gl12),.ss (msds gq13 40 3 TOp.row gl12),.obj b1 [.slice none 0 0,.slice none 0 0,.slice none 0 0] 25,.sl gv9 40 3 (gl10.map TOp.row),.sl gv23 3 1 (gl24.map I),.sl gv21 3 1 (gl22.map I),.os gc1]∧M7K3 gl12 gx18 gl22 go1 gl24=some r) ?_ ?_))))))))))
   ·refine sr (L.y rfl (Y.fieldP fd47_2 rfl) (L.y rfl (Y.loadP (i:=1) ag45 rfl rfl rfl) (L.r 1 rfl (L.y rfl (Y.lookupM (i:=2) (g:=(VI .i64)) (lm:=gl11) (z0:=0) Tryz.underlying45 Tryz.underlying3 (by kernel_rfl) rfl rfl rfl rfl) (L.ite h rfl (Y.gtr rfl rfl) (fun c22 h=>?_) (fun c22 h=>?_))))))
    ·refine ln (W.condT rfl (W.region (L.y rfl (Y.fieldP fd25_1 rfl) (L.y rfl (Y.loadP (i:=0) ag23 rfl rfl rfl) (L.r 1 rfl (L.litOne rfl Tryz.underlying23 eL3 rfl rfl ?_))))))
     intro b23
     refine L.appM (i:=8) (g:=I) (l:=gl20) (more:=[gx18]) h rfl Tryz.underlying23 eL3 rfl rfl rfl (fun w hw=>As.at_ (hw.get (i:=0) rfl)) (plain_ints _) rfl ?_
     intro v24 l25 el25 h
     exact L.y rfl (Y.fieldP fd25_1 rfl) (L.storeV (i:=2) sz23 rfl rfl (fun _ hw=>(As.at_ (hw.get (i:=0) rfl)).one) rfl nb (L.nil (E.jJ ⟨v24,l25,rfl,rfl,h⟩ (sI [2,3,4,5,6,7,8,0,9,10]))))
    exact ln (W.condF rfl (W.skip (E.jJ ⟨gv19,gl20,rfl,rfl,h⟩ hI)))
   rintro _ _ ⟨gv23,gl24,rfl,rfl,h⟩
   rw [M7K3] at h
   refine sr (L.y rfl (Y.fieldP fd47_1 rfl) (L.y rfl (Y.loadP (i:=1) ag44 rfl rfl rfl) (L.r 1 rfl (L.y rfl (Y.msLookOk (i:=3) (us:=gq13) (l:=gl12) Tryz.underlying44 Tryz.underlying3 (by kernel_rfl) rfl rfl rfl) (L.r 2 rfl (L.iteB h rfl (Y.extract rfl rfl) (fun c16 h=>?_) (fun c16 h=>?_)))))))
   ·refine L.r 2 rfl (nsr (L.r 1 rfl (ln (W.condT rfl (W.region (L.y rfl (Y.fieldP fd25_2 rfl) (L.y rfl (Y.loadP (i:=0) ag23 rfl rfl rfl) (L.r 1 rfl (L.litOne rfl Tryz.underlying23 eL3 rfl rfl ?_)))))))))
    intro b17
    refine L.appM (i:=9) (g:=I) (l:=gl22) (more:=[gx18]) h rfl Tryz.underlying23 eL3 rfl rfl rfl (fun w hw=>As.at_ (hw.get (i:=0) rfl)) (plain_ints _) rfl ?_
    intro v18 l19 el19 h
    exact L.y rfl (Y.fieldP fd25_2 rfl) (L.storeV (i:=2) sz23 rfl rfl (fun _ hw=>(As.at_ (hw.get (i:=0) rfl)).one) rfl nb (L.nil (E.blockN (E.thenN (W.region (L.m (V:=fun x20=>.int .i64 x20) h rfl (Y.addM rfl rfl) (fun x20 ex20 h=>(L.r 1 rfl (L.nil (E.aJ ⟨x20,gv23,gl24,v18,l19,rfl,rfl,by rw [hg1];exact h⟩ (sI [2,3,4,5,6,7,8,9,0,10])))))))))))
   refine L.r 2 rfl (nsr (L.r 1 rfl (ln (W.condF rfl (W.skip (E.blockN (E.thenN (W.region (L.m (V:=fun x21=>.int .i64 x21) h rfl (Y.addM rfl rfl) (fun x21 ex21 h=>?_))))))))))
   exact L.r 1 rfl (L.nil (E.aJ ⟨x21,gv23,gl24,gv21,gl22,rfl,rfl,by rw [hg1];exact h⟩ hI))
  exact ln (W.seq (W.condF rfl (W.exit (E.thenX (E.KLX (E.blockX (E.jJ ⟨gv19,gl20,gv21,gl22,rfl,rfl,h⟩ (sI [0,5,6,7,8,9]))))))))
 rintro _ _ ⟨gv14,gl15,gv16,gl17,rfl,rfl,h⟩
 rw [M7K2] at h
 refine sr (L.y rfl (Y.loadPW (i:=0) ag25 sz25 rfl rfl rfl) (L.storeC (i:=1) sz25 rfl rfl rfl rfl (fun w hw=>(all1 (As.at_ (hw.get (i:=2) rfl)).one (all1 (As.at_ (hw.get (i:=3) rfl)).one (all1 (As.at_ (hw.get (i:=4) rfl)).one all0)))) rfl nb (ln (W.ret (E.frz (i:=2) rfl rfl rfl ?_)))))
 intro c6 mo7 hf8
 refine E.frz (i:=2) rfl rfl rfl ?_
 intro c9 mo10 hf11
 refine E.frz (i:=2) rfl rfl rfl ?_
 intro c12 mo13 hf14
 refine E.retR1 rfl (Rv.cellW (i:=1) ag25 sz25 rfl rfl rfl) (fun w1 hw=>?_)
 cases h
 exact ⟨_,_,rfl,⟨c12,rfl,gv9,gv14,gv16,rfl,(((hf8 K).mo mo10).mo mo13),((hf11 K).mo mo13),(hf14 K)⟩,hw.s [2]⟩
set_option maxRecDepth 100000 in
set_option maxHeartbeats 8000000 in
theorem W3 (a0:(List TOp)) (u0:Value) (K:World→Prop) (w:World) (hK:StbF K w []) (r:Bool) (h:M3 a0=some r) (hA0:Fz K [] u0 3 (a0.map TOp.row)):Does Tryz.prog 3 [u0] w fun u m=>u=.bool r∧m=[]:=by
 rw [M3] at h
 refine body (n:=31) Tryz.func3 rfl rfl rfl (Cls.reflF w) (sr (L.r 1 rfl (nsr (L.r 1 rfl ?_))))
 obtain ⟨x1,x8,e9,h⟩:=bind2S h
 refine L.doesFP rfl en4 rfl rfl hK (fun w' hw hs=>W4 a0 u0 _ w' hs.f _ e9 hA0.up.tok) ?_
 rintro _ c10 c11 mo12 mn13 ma14 ⟨v2,v4,v6,rfl,f3,f5,f7⟩
 refine L.r 3 rfl (L.alloc rfl ze25 ?_)
 intro b15
 refine L.storeC (i:=0) sz25 rfl rfl rfl rfl (fun w hw=>(all1 ((mn13 f3).clsP hK hw rfl).one (all1 ((mn13 f5).clsP hK hw rfl).one (all1 ((mn13 f7).clsP hK hw rfl).one all0)))) rfl nb (L.r 1 rfl (ln (W.seq (sr (L.r 1 rfl ?_)))))
 obtain ⟨x16,e17,h⟩:=bind1S h
 refine L.y rfl (Y.does en5 rfl (fun w' hw=>(W5 a0 u0 w' _ e17 (hA0.up.clsP hK hw rfl)).mono (fun _ _ h=>h.1))) (L.r 1 rfl (ln (W.seqJ (fun gs D=>∃ gb1,gs=[(0,u0),(3,pt b15 0),(4,.int .i64 x8),(5,.int .i64 x16),(14,.bool gb1)]∧D=Cls w [] [.obj b15 [v2,v4,v6] 25,.os c11]∧M3K1 x1 x8 x16 a0 gb1=some r) ?_ ?_)))
 ·refine W.region (L.r 1 rfl (L.ite h rfl (Y.neq rfl rfl) (fun c86 h=>?_) (fun c86 h=>?_)))
  ·exact L.nil (E.jJ ⟨true,rfl,rfl,h⟩ hI)
  exact L.nil (E.jJ ⟨false,rfl,rfl,h⟩ hI)
 rintro _ _ ⟨gb1,rfl,rfl,h⟩
 rw [M3K1] at h
 rcases gb1 with _ | _
 ·replace h:=iteF h
  refine W.condF rfl (W.skip (E.thenN (W.seqJ (fun gs D=>∃ gc2 gb3,gs=[(2,.bool gb3)]∧D=Cls w [] [.os gc2]∧M3K2 gb3=some r) ?_ ?_)))
  ·refine W.drawn2 (k:=9) (stC [[2]] [Cls w [] [.obj b15 [v2,v4,v6] 25,.os c11]] (Cls w [] [])) rfl mixed (fun _ hw=>hw.drew) (Sc.now (by kernel_rfl) hI) (V2.r [1] (by kernel_rfl) rfl (V2.eff2 (i1:=0) (i2:=2) (by kernel_rfl) rfl rfl ?_ ?_))
   ·refine L.y rfl (Y.loadPW (i:=0) ag25 sz25 rfl rfl rfl) (L.nil (E.toV2 (stC [[2]] [Cls w [] [.obj b15 [v2,v4,v6] 25,.os c11]] (Cls w [] [])) 0 (by kernel_rfl) (Sc.stay hI (Sc.stayD hI)) (Sc.now (by kernel_rfl) hI) (V2.eff (i:=2) (by kernel_rfl) rfl ?_)))
    obtain ⟨x49,e56,h⟩:=bind1S h
    refine L.doesFP rfl en7 rfl rfl hK (fun w' hw hs=>W7 a0 u0 _ w' hs.f _ e56 hA0.up.tok) ?_
    rintro _ c57 c58 mo59 mn60 ma61 ⟨v50,v52,v54,rfl,f51,f53,f55⟩
    refine L.nil (E.toV2 (stC [] [] (Cls w [] [])) 2 (by kernel_rfl) (Sc.past rfl (Sc.stayD hI)) (Sc.atD (sI [])) (V2.eff (i:=3) (by kernel_rfl) rfl ?_))
    obtain ⟨b62,e63,h⟩:=bind1S h
    refine L.y rfl (Y.does en6 rfl (fun w' hw=>(W6 x1 x49 v2 v4 v6 v50 v52 v54 w' _ e63 (((mn13 f3).mo mo59).clsP hK hw rfl) (((mn13 f5).mo mo59).clsP hK hw rfl) (((mn13 f7).mo mo59).clsP hK hw rfl) ((mn60 f51).clsP hK hw rfl) ((mn60 f53).clsP hK hw rfl) ((mn60 f55).clsP hK hw rfl)).mono (fun _ _ h=>h.1))) ?_
    rcases b62 with _ | _
    ·replace h:=iteF h
     exact L.nil (E.toV2 (stC [] [] (Cls w [] [])) 3 (by kernel_rfl) (Sc.stayD hI) (Sc.atD (sI [])) (V2.r [4,5,6,7,8] (by kernel_rfl) rfl (V2.done (by kernel_rfl) (E.jJ ⟨c58,false,rfl,rfl,h⟩ (sI [1])))))
    replace h:=iteT h
    exact L.nil (E.toV2 (stC [] [] (Cls w [] [])) 3 (by kernel_rfl) (Sc.stayD hI) (Sc.atD (sI [])) (V2.zz [] (Zc.fin hI) (fun hz65=>(V2.r [4,5] (by kernel_rfl) rfl (V2.q 6 [] hz65 rfl rfl (Y.eql rfl rfl) (V2.r [7,8] (by kernel_rfl) rfl (V2.done (by kernel_rfl) (E.jJ ⟨c58,decide (x8=0),rfl,rfl,h⟩ (sI [1])))))))))
   obtain ⟨x66,e73,h⟩:=bind1S h
   refine L.doesFP rfl en7 rfl rfl hK (fun w' hw hs=>W7 a0 u0 _ w' hs.f _ e73 hA0.up.tok) ?_
   rintro _ c74 c75 mo76 mn77 ma78 ⟨v67,v69,v71,rfl,f68,f70,f72⟩
   refine L.nil (E.toV2 (stC [] [] (Cls w [] [])) 2 (by kernel_rfl) (Sc.past rfl (Sc.stayD hI)) (Sc.atD (sI [])) (V2.eff (i:=0) (by kernel_rfl) rfl (L.y rfl (Y.loadPW (i:=0) ag25 sz25 rfl rfl rfl) (L.nil (E.toV2 (stC [] [] (Cls w [] [])) 0 (by kernel_rfl) (Sc.stayD hI) (Sc.atD (sI [])) (V2.eff (i:=3) (by kernel_rfl) rfl ?_))))))
   obtain ⟨b80,e81,h⟩:=bind1S h
   refine L.y rfl (Y.does en6 rfl (fun w' hw=>(W6 x1 x66 v2 v4 v6 v67 v69 v71 w' _ e81 (((mn13 f3).mo mo76).clsP hK hw rfl) (((mn13 f5).mo mo76).clsP hK hw rfl) (((mn13 f7).mo mo76).clsP hK hw rfl) ((mn77 f68).clsP hK hw rfl) ((mn77 f70).clsP hK hw rfl) ((mn77 f72).clsP hK hw rfl)).mono (fun _ _ h=>h.1))) ?_
   rcases b80 with _ | _
   ·replace h:=iteF h
    exact L.nil (E.toV2 (stC [] [] (Cls w [] [])) 3 (by kernel_rfl) (Sc.stayD hI) (Sc.atD (sI [])) (V2.r [4,5,6,7,8] (by kernel_rfl) rfl (V2.done (by kernel_rfl) (E.jJ ⟨c75,false,rfl,rfl,h⟩ (sI [1])))))
   replace h:=iteT h
   exact L.nil (E.toV2 (stC [] [] (Cls w [] [])) 3 (by kernel_rfl) (Sc.stayD hI) (Sc.atD (sI [])) (V2.zz [] (Zc.fin hI) (fun hz83=>(V2.r [4,5] (by kernel_rfl) rfl (V2.q 6 [] hz83 rfl rfl (Y.eql rfl rfl) (V2.r [7,8] (by kernel_rfl) rfl (V2.done (by kernel_rfl) (E.jJ ⟨c75,decide (x8=0),rfl,rfl,h⟩ (sI [1])))))))))
  rintro _ _ ⟨gc2,gb3,rfl,rfl,h⟩
  rw [M3K2] at h
  refine W.ret (E.ret1 rfl rfl (fun w1 hw=>?_))
  cases h
  exact ⟨_,_,rfl,⟨rfl,rfl⟩,hw.s []⟩
 replace h:=iteT h
 refine W.condT rfl (sr (L.y rfl (Y.loadPW (i:=0) ag25 sz25 rfl rfl rfl) (L.y rfl (Y.build (cells:=#[.slice none 0 0,.slice none 0 0,.slice none 0 0]) rfl (by kernel_rfl)) ?_)))
 obtain ⟨b84,e85,h⟩:=bind1S h
 refine L.y rfl (Y.does en6 rfl (fun w' hw=>(W6 x1 (⟨[],[],[]⟩:TPlayed) v2 v4 v6 (.slice none 0 0) (.slice none 0 0) (.slice none 0 0) w' _ e85 ((mn13 f3).clsP hK hw rfl) ((mn13 f5).clsP hK hw rfl) ((mn13 f7).clsP hK hw rfl) (At.nil w' _) (At.nil w' _) (At.nil w' _)).mono (fun _ _ h=>h.1))) ?_
 rcases b84 with _ | _
 ·replace h:=iteF h
  refine L.r 6 rfl (ln (W.ret (E.thenR (E.ret1 rfl rfl (fun w1 hw=>?_)))))
  cases h
  exact ⟨_,_,rfl,⟨rfl,rfl⟩,hw.s []⟩
 replace h:=iteT h
 refine L.r 3 rfl (L.take rfl (L.y rfl (Y.eql rfl rfl) (L.r 2 rfl (ln (W.ret (E.thenR (E.ret1 rfl rfl (fun w1 hw=>?_))))))))
 cases h
 exact ⟨_,_,rfl,⟨rfl,rfl⟩,hw.s []⟩
end Go.Proofs.YtlecphianicdhaaGreat
