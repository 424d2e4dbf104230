import Derived.Test.YtdlemoeinjihkaaGreatDoorTqW3
import Derived.Test.YtdlemoeinjihkaaGreatDoorChecked
import Derived.KernelRfl
import Derived.Test.YtdlemoeinjihkaaGreatDoorZf
namespace Go.Proofs.YtdlemoeinjihkaaGreatDoor
open Go.S
set_option linter.unusedVariables false
set_option linter.unusedSimpArgs false
set_option maxRecDepth 100000 in
set_option maxHeartbeats 8000000 in
theorem W24 (a0:Int) (a1:Int) (A69:(List TStore)) (A73:(List Ttx)) (A114:(List TDisk)) (A152:(List TLog)) (gP69:Nat→Nat) (gP73:Nat→Nat) (gP114:Nat→Nat) (gP152:Nat→Nat) (qP69:Nat→List Value) (qP73:Nat→List Value) (qP114:Nat→List Value) (qP152:Nat→List Value) (w:World) (r:((List TStore)×(List TDisk)×(List TLog)×Int)) (h:M24 a0 a1 A69 A73 A114 A152=some r) (F:List Nat) (hc0:Cls w F (qas gP69 gP73 gP152 qP69 A69 qP73 A73 gP114 qP114 A114 qP152 A152) w):zu Tryz.prog 24 [VP gP69 a0,VP gP73 a1] F w fun u m=>∃ Q69 Q114 Q152,u=.int .i64 r.2.2.2∧m=[zg gP69 gP73 gP152 Q69 r.1 [],tQC gP73 qP73 A73,qS gP114 Q114 r.2.1 [],qY gP114 gP152 Q152 r.2.2.1 []]:=by
 rw [M24] at h
 refine body (n:=67) Tryz.func24 rfl rfl rfl hc0 ?_
 obtain ⟨th1,eth1,h⟩:=qc h
 refine W.to (D:=Cls w F (k7 gP69 a0 gP152 th1 qP69 gP73 A69 qP73 A73 gP114 qP114 A114 qP152 A152)) (fun _ hw=>hw.aO 0 rfl eth1) (sr (L.r 1 rfl (ln (W.seq (sr (L.r 1 rfl (L.to (D:=Cls w F (qas gP69 gP73 gP152 qP69 A69 qP73 A73 gP114 qP114 A114 qP152 A152)) (fun _ hw=>hw.aS [0,1,2,3,4,5,6,7,8] eth1 rfl) ?_)))))))
 obtain ⟨th2,eth2,h⟩:=qc h
 refine L.to (D:=Cls w F (tQb gP73 a1 th2 qP73::xW qP73 a1 th2::xX qP73 a1 th2::tQz th2::tQL gP73 qP73 A73 a1::tQH gP69 gP73 gP152 qP69 A69::zd gP114 qP114 A114 gP152 qP152 A152)) (fun _ hw=>hw.aO 1 rfl eth2) (L.y rfl (Y.apNil rfl eth2) (L.y rfl (Y.fieldP xw rfl) (L.y rfl (Y.loadG (q:=0) (si:=4) (ps:=4) (j:=0) (X:=[(tQh qP73 a1)]) jy rfl rfl rfl rfl rfl rfl) (L.y rfl (Y.lenM (g:=I) (l:=th2.writes_) Tryz.underlying52 rfl (fun w hw=>As.at_ (hw.get (i:=2) rfl))) (L.ite h rfl (Y.eql rfl rfl) (fun c3 h=>?_) (fun c3 h=>?_))))))
 ·refine ln (W.condT rfl (sr (L.r 1 rfl (ln (W.ret (E.thenR (E.to (D:=Cls w F (tQC gP73 qP73 A73::tQH gP69 gP73 gP152 qP69 A69::zd gP114 qP114 A114 gP152 qP152 A152)) (fun _ hw=>hw.aS [0,1,2,3,4,5,6,7] eth2 rfl) (E.ret1 rfl rfl (fun w1 hw=>?_)))))))))
  cases h
  exact ⟨_,_,rfl,⟨_,_,_,rfl,rfl⟩,hw.s [1,0,2,3]⟩
 refine ln (W.condF rfl (W.skip (E.thenN (sr (L.r 1 rfl (L.y rfl (Y.apNil rfl eth2) (L.y rfl (Y.fieldP xw rfl) (L.y rfl (Y.loadG (q:=0) (si:=4) (ps:=4) (j:=0) (X:=[(tQh qP73 a1)]) jy rfl rfl rfl rfl rfl rfl) ?_))))))))
 obtain ⟨l4,e6,h⟩:=qc h
 refine L.does rfl (by kernel_rfl) rfl (fun w' hw=>W48 th2.writes_ (tQh qP73 a1) w' _ e6 (As.at_ (hw.get (i:=2) rfl))) ?_
 rintro v5 _ ⟨_,rfl,rfl⟩
 refine L.r 1 rfl (nsr (L.r 1 rfl (L.sortMD (i:=0) (l:=l4) h qme rfl (by kernel_rfl) rfl rfl ?_)))
 intro l7 el7 h
 refine nsr (L.r 1 rfl (ln (W.seqJ (fun gs D=>∃ gs1,gs=[(0,VP gP69 a0),(6,st gs1)]∧D=Cls w F (tQC gP73 qP73 A73::tQH gP69 gP73 gP152 qP69 A69::zd gP114 qP114 A114 gP152 qP152 A152)∧qhv A69 a0 A114 A152 gs1=some r) ?_ ?_)))
 ·refine sr (L.r 1 rfl (L.y rfl (Y.lenM (g:=I) (l:=l7) Tryz.underlying52 rfl (fun w hw=>As.at_ (hw.get (i:=0) rfl))) (L.r 1 rfl (ln (W.block (W.to (D:=Cls w F (tQC gP73 qP73 A73::tQI v5 l7::tQH gP69 gP73 gP152 qP69 A69::zd gP114 qP114 A114 gP152 qP152 A152)) (fun _ hw=>hw.aS [1,2,3,4,5,0,6,7,8] eth2 rfl) (W.loopJ (fun m gs D=>∃ gs2 gx3,gs=[(0,VP gP69 a0),(1,VP gP73 a1),(6,st gs2),(24,v5),(25,.int .i64 (l7.length:Int)),(26,.int .i64 gx3)]∧D=Cls w F [tQC gP73 qP73 A73,tQH gP69 gP73 gP152 qP69 A69,tQt gP114 qP114 A114,tQw gP114 gP152 qP152 A152,tQI v5 l7]∧y5 l7 A73 a1 A69 a0 A114 A152 m gs2 gx3=some r) ⟨[67],0,rfl,rfl,h⟩ ⟨rfl,rfl,rfl,rfl,rfl,rfl,trivial⟩ (sI [0,2,3,4,1]) ?_)))))))
  rintro m _ _ ⟨gs2,gx3,rfl,rfl,h⟩
  rcases m with _ | m
  ·rw [y5] at h;cases h
  rw [y5] at h
  generalize hg1:y5 l7 A73 a1 A69 a0 A114 A152 m=go1 at h
  rw [qdB] at h
  refine sr (L.ite h rfl (Y.lss rfl rfl) (fun c36 h=>?_) (fun c36 h=>?_))
  ·refine ln (W.seq (W.condT rfl (W.skip (E.thenN (W.seq (W.block (sr (L.m (V:=fun _=>el v5 (zG gx3)) h rfl (Y.indexM (g:=I) (l:=l7) Tryz.underlying52 sz3 rfl rfl (fun w hw=>As.at_ (hw.get (i:=4) rfl))) (fun x37 ex37 h=>(L.y rfl (Y.loadE1 (u:=.int .i64 x37) ag3 rfl (fun w hw=>As.at_ (hw.get (i:=4) rfl)) (qf ex37)) (L.r 1 rfl (L.nil ?_))))))))))))
   refine E.thenN (W.region (L.r 4 rfl ?_))
   obtain ⟨th38,eth38,h⟩:=qc h
   refine L.to (D:=Cls w F [tQb gP73 a1 th38 qP73,xW qP73 a1 th38,xX qP73 a1 th38,tQz th38,tQL gP73 qP73 A73 a1,tQH gP69 gP73 gP152 qP69 A69,tQt gP114 qP114 A114,tQw gP114 gP152 qP152 A152,tQI v5 l7]) (fun _ hw=>hw.aO 0 rfl eth38) (L.y rfl (Y.apNil rfl eth38) (L.y rfl (Y.fieldP qa5 rfl) (L.m (V:=fun _=>pt (gP73 a1.toNat) (5+x37.toNat*1)) h rfl (Y.indexAS (l:=th38.texts_) Tryz.underlying59 sz9 rfl rfl) (fun x39 ex39 h=>(L.y rfl (Y.loadZg (si:=5) (ps:=5) (q:=0) (row:=(fzr SR)) (vs:=(fun _=>[])) (j:=0) (pv:=st x39) ag9 rfl rfl rfl rfl rfl (fun _ _=>rfl) (qg ex39) rfl) ?_)))))
   obtain ⟨s40,e41,h⟩:=qc h
   exact L.y rfl (Y.does (by kernel_rfl) rfl (fun w' hw=>(W50 x37 x39 w' _ e41).mono (fun _ _ h=>h.1))) (L.m (V:=fun s42=>st s42) h rfl (Y.catM rfl rfl) (fun s42 es42 h=>(L.r 1 rfl (L.nil (E.blockN (E.thenN (W.region (L.m (V:=fun x43=>.int .i64 x43) h rfl (Y.addM rfl rfl) (fun x43 ex43 h=>(L.r 1 rfl (L.nil (E.to (D:=Cls w F [tQC gP73 qP73 A73,tQH gP69 gP73 gP152 qP69 A69,tQt gP114 qP114 A114,tQw gP114 gP152 qP152 A152,tQI v5 l7]) (fun _ hw=>hw.aS [0,1,2,3,4,5,6,7,8] eth38 rfl) (E.aJ ⟨s42,x43,rfl,rfl,by rw [hg1];exact h⟩ hI)))))))))))))
  exact ln (W.seq (W.condF rfl (W.exit (E.thenX (E.KLX (E.blockX (E.jJ ⟨gs2,rfl,rfl,h⟩ (sI [0,1,2,3]))))))))
 rintro _ _ ⟨gs1,rfl,rfl,h⟩
 rw [qhv] at h
 refine W.seq ?_
 obtain ⟨th8,eth8,h⟩:=qc h
 refine W.to (D:=Cls w F (k7 gP69 a0 gP152 th8 qP69 gP73 A69 qP73 A73 gP114 qP114 A114 qP152 A152)) (fun _ hw=>hw.aO 1 rfl eth8) (W.quietC mixed (by kernel_rfl) (fun _ hw=>hw.drew) (fun hC=>(U.r 2 rfl (U.y rfl (Y.apNil rfl eth8) (U.y rfl (Y.fieldP qc3 rfl) ?_)))))
 obtain ⟨_,en9,h⟩:=qc h
 obtain ⟨_,en9⟩:=qd en9
 refine U.y rfl (Y.loadG (q:=0) (si:=1) (ps:=2) (j:=0) (X:=[.int .i64 th8.half_]) ag3 rfl rfl rfl rfl (by simp [zl,en9]) rfl) (U.y rfl (Y.apNil rfl eth8) (U.y rfl (Y.fieldP qgA rfl) (U.m (V:=fun _=>pt (gP69 a0.toNat) (0+th8.half_.toNat*1)) h rfl (Y.indexAS (l:=th8.logs_) Tryz.underlying64 qmj rfl rfl) (fun x10 ex10 h=>(U.y rfl (Y.loadZg (si:=0) (ps:=0) (q:=0) (row:=(fzr (PR gP152))) (vs:=(fun _=>[])) (j:=0) (pv:=VP gP152 x10) qpI rfl rfl rfl rfl sl0 (fun _ _=>rfl) (qg ex10) rfl) (U.r 1 rfl (U.nil (E.thenN (W.seq (sr (L.r 2 rfl (L.to (D:=Cls w F (tQt gP114 qP114 A114::tQw gP114 gP152 qP152 A152::tQS gP69 a0 gP152 th8 qP69 gP73 A69 qP73 A73)) (sI [7,8,0,1,2,3,4,5,6]) ?_))))))))))))
 obtain ⟨l11,l12,x13,e14,h⟩:=zt h
 refine L.doesP (A:=(zd gP114 qP114 A114 gP152 qP152 A152)) (M:=(tQS gP69 a0 gP152 th8 qP69 gP73 A69 qP73 A73)) rfl (by kernel_rfl) rfl (fun w' hw=>W51 x10 gs1 A114 A152 gP114 gP152 qP114 qP152 w' _ e14 _ hw.lend) ?_
 rintro _ _ ⟨q15,q16,rfl,rfl⟩
 refine L.to (D:=Cls w F (tQt gP114 q15 l11::tQw gP114 gP152 q16 l12::tQS gP69 a0 gP152 th8 qP69 gP73 A69 qP73 A73)) hI (L.r 1 rfl (nsr (L.r 1 rfl (ln (W.block (sr (L.ite h rfl (Y.eql rfl rfl) (fun c17 h=>?_) (fun c17 h=>?_))))))))
 ·refine L.r 1 rfl (ln (W.condT rfl (W.skip (E.blockN (E.thenN (sr (L.r 2 rfl ?_)))))))
  obtain ⟨l18,l19,x20,e21,h⟩:=zt h
  refine L.doesP (A:=(zd gP114 q15 l11 gP152 q16 l12)) (M:=(tQS gP69 a0 gP152 th8 qP69 gP73 A69 qP73 A73)) rfl (by kernel_rfl) rfl (fun w' hw=>W53 x10 l11 l12 gP114 gP152 q15 q16 w' _ e21 _ hw.lend) ?_
  rintro _ _ ⟨q22,q23,rfl,rfl⟩
  refine L.to (D:=Cls w F (tQt gP114 q22 l18::tQw gP114 gP152 q23 l19::tQS gP69 a0 gP152 th8 qP69 gP73 A69 qP73 A73)) hI (L.to (D:=qcy w F gP69 gP73 gP152 qP69 A69 gP114 q22 l18 q23 l19 qP73 A73) (fun _ hw=>hw.aS [2,3,4,5,6,7,0,1,8] eth8 rfl) ?_)
  obtain ⟨l24,x25,e26,h⟩:=qt h
  refine L.doesP (A:=[tQH gP69 gP73 gP152 qP69 A69]) (M:=[tQt gP114 q22 l18,tQw gP114 gP152 q23 l19,tQC gP73 qP73 A73]) rfl (by kernel_rfl) rfl (fun w' hw=>W52 a0 x20 A69 gP69 gP73 gP152 qP69 w' _ e26 _ hw.lend) ?_
  rintro _ _ ⟨q27,rfl,rfl⟩
  refine L.to (D:=qcy w F gP69 gP73 gP152 q27 l24 gP114 q22 l18 q23 l19 qP73 A73) hI ?_
  obtain ⟨th28,eth28,h⟩:=qc h
  refine L.to (D:=Cls w F [tQa gP69 a0 gP152 th28 q27,ka q27 a0 th28 gP73,jh q27 a0 th28 gP73,tQj th28,tQe q27 a0 th28,tQu gP69 gP73 gP152 q27 l24 a0,tQt gP114 q22 l18,tQw gP114 gP152 q23 l19,tQC gP73 qP73 A73]) (fun _ hw=>hw.aO 0 rfl eth28) (L.r 1 rfl (ln (W.ret (E.to (D:=qcy w F gP69 gP73 gP152 q27 l24 gP114 q22 l18 q23 l19 qP73 A73) (fun _ hw=>hw.aS [0,1,2,3,4,5,6,7,8] eth28 rfl) (E.ret1 rfl rfl (fun w1 hw=>?_))))))
  cases h
  exact ⟨_,_,rfl,⟨_,_,_,rfl,rfl⟩,hw.s [0,3,1,2]⟩
 refine L.r 1 rfl (ln (W.condF rfl (W.seq (sr (L.ite h rfl (Y.eql rfl rfl) (fun c29 h=>?_) (fun c29 h=>?_))))))
 ·refine L.r 1 rfl (ln (W.condT rfl (W.skip (E.thenN (W.condT rfl (sr (L.r 2 rfl (ln (W.ret (E.blockR ?_))))))))))
  refine E.thenR (E.to (D:=qcy w F gP69 gP73 gP152 qP69 A69 gP114 q15 l11 q16 l12 qP73 A73) (fun _ hw=>hw.aS [2,3,4,5,6,7,0,1,8] eth8 rfl) (E.ret1 rfl rfl (fun w1 hw=>?_)))
  cases h
  exact ⟨_,_,rfl,⟨_,_,_,rfl,rfl⟩,hw.s [0,3,1,2]⟩
 refine L.r 1 rfl (ln (W.condF rfl (W.region (L.ite h rfl (Y.eql rfl rfl) (fun c30 h=>?_) (fun c30 h=>?_)))))
 ·refine L.r 1 rfl (ln (W.condT rfl (sr (L.r 2 rfl (ln (W.ret (E.blockR (E.thenR (E.to (D:=qcy w F gP69 gP73 gP152 qP69 A69 gP114 q15 l11 q16 l12 qP73 A73) (fun _ hw=>hw.aS [2,3,4,5,6,7,0,1,8] eth8 rfl) (E.ret1 rfl rfl (fun w1 hw=>?_)))))))))))
  cases h
  exact ⟨_,_,rfl,⟨_,_,_,rfl,rfl⟩,hw.s [0,3,1,2]⟩
 refine L.r 1 rfl (ln (W.condF rfl (sr (L.r 2 rfl (L.to (D:=qcy w F gP69 gP73 gP152 qP69 A69 gP114 q15 l11 q16 l12 qP73 A73) (fun _ hw=>hw.aS [2,3,4,5,6,7,0,1,8] eth8 rfl) ?_)))))
 obtain ⟨l31,x32,e33,h⟩:=qt h
 refine L.doesP (A:=[tQH gP69 gP73 gP152 qP69 A69]) (M:=[tQt gP114 q15 l11,tQw gP114 gP152 q16 l12,tQC gP73 qP73 A73]) rfl (by kernel_rfl) rfl (fun w' hw=>W52 a0 x13 A69 gP69 gP73 gP152 qP69 w' _ e33 _ hw.lend) ?_
 rintro _ _ ⟨q34,rfl,rfl⟩
 refine L.to (D:=qcy w F gP69 gP73 gP152 q34 l31 gP114 q15 l11 q16 l12 qP73 A73) hI ?_
 obtain ⟨th35,eth35,h⟩:=qc h
 refine L.to (D:=Cls w F [tQa gP69 a0 gP152 th35 q34,ka q34 a0 th35 gP73,jh q34 a0 th35 gP73,tQj th35,tQe q34 a0 th35,tQu gP69 gP73 gP152 q34 l31 a0,tQt gP114 q15 l11,tQw gP114 gP152 q16 l12,tQC gP73 qP73 A73]) (fun _ hw=>hw.aO 0 rfl eth35) (L.r 1 rfl (ln (W.ret (E.blockR (E.thenR (E.to (D:=qcy w F gP69 gP73 gP152 q34 l31 gP114 q15 l11 q16 l12 qP73 A73) (fun _ hw=>hw.aS [0,1,2,3,4,5,6,7,8] eth35 rfl) (E.ret1 rfl rfl (fun w1 hw=>?_))))))))
 cases h
 exact ⟨_,_,rfl,⟨_,_,_,rfl,rfl⟩,hw.s [0,3,1,2]⟩
set_option maxRecDepth 100000 in
set_option maxHeartbeats 8000000 in
theorem W10 (a0:Int) (a1:Int) (A69:(List TStore)) (A73:(List Ttx)) (A114:(List TDisk)) (A152:(List TLog)) (gP69:Nat→Nat) (gP73:Nat→Nat) (gP114:Nat→Nat) (gP152:Nat→Nat) (qP69:Nat→List Value) (qP73:Nat→List Value) (qP114:Nat→List Value) (qP152:Nat→List Value) (w:World) (r:((List TStore)×(List Ttx)×(List TDisk)×(List TLog)×Int)) (h:M10 a0 a1 A69 A73 A114 A152=some r) (F:List Nat) (hc0:Cls w F (qas gP69 gP73 gP152 qP69 A69 qP73 A73 gP114 qP114 A114 qP152 A152) w):zu Tryz.prog 10 [VP gP69 a0,.int .i64 a1] F w fun u m=>∃ Q69 Q73 Q114 Q152,u=.int .i64 r.2.2.2.2∧m=[zg gP69 gP73 gP152 Q69 r.1 [],zE gP73 Q73 r.2.1 [],qS gP114 Q114 r.2.2.1 [],qY gP114 gP152 Q152 r.2.2.2.1 []]:=by
 rw [M10] at h
 refine body (n:=131) Tryz.func10 rfl rfl rfl hc0 ?_
 obtain ⟨th1,eth1,h⟩:=qc h
 refine W.to (D:=Cls w F (k7 gP69 a0 gP152 th1 qP69 gP73 A69 qP73 A73 gP114 qP114 A114 qP152 A152)) (fun _ hw=>hw.aO 0 rfl eth1) (sr (L.r 1 rfl (nsr (L.r 2 rfl (L.to (D:=Cls w F (qas gP69 gP73 gP152 qP69 A69 qP73 A73 gP114 qP114 A114 qP152 A152)) (fun _ hw=>hw.aS [0,1,2,3,4,5,6,7,8] eth1 rfl) ?_)))))
 obtain ⟨x2,x3,e4,h⟩:=qt h
 refine L.doesP (A:=(z8 gP69 gP73 gP152 qP69 A69 qP73 A73)) (M:=(zd gP114 qP114 A114 gP152 qP152 A152)) rfl (by kernel_rfl) rfl (fun w' hw=>W18 a0 a1 0 A69 A73 gP69 gP73 gP152 qP69 qP73 w' _ e4 _ hw.lend) ?_
 rintro _ _ ⟨rfl,rfl⟩
 refine L.to (D:=Cls w F (qas gP69 gP73 gP152 qP69 A69 qP73 A73 gP114 qP114 A114 qP152 A152)) hI ?_
 obtain ⟨th5,eth5,h⟩:=qc h
 refine L.to (D:=Cls w F (k7 gP69 a0 gP152 th5 qP69 gP73 A69 qP73 A73 gP114 qP114 A114 qP152 A152)) (fun _ hw=>hw.aO 0 rfl eth5) (L.r 5 rfl (ln (W.seq (sr (L.r 1 rfl (L.ite h rfl (Y.neq rfl rfl) (fun c6 h=>?_) (fun c6 h=>?_)))))))
 ·refine ln (W.condT rfl (sr (L.r 2 rfl (ln (W.ret (E.thenR (E.to (D:=Cls w F (qas gP69 gP73 gP152 qP69 A69 qP73 A73 gP114 qP114 A114 qP152 A152)) (fun _ hw=>hw.aS [0,1,2,3,4,5,6,7,8] eth5 rfl) (E.ret1 rfl rfl (fun w1 hw=>?_)))))))))
  cases h
  exact ⟨_,_,rfl,⟨_,_,_,_,rfl,rfl⟩,hw⟩
 refine ln (W.condF rfl (W.skip (E.thenN (sr (L.r 2 rfl (L.to (D:=Cls w F (qas gP69 gP73 gP152 qP69 A69 qP73 A73 gP114 qP114 A114 qP152 A152)) (fun _ hw=>hw.aS [0,1,2,3,4,5,6,7,8] eth5 rfl) ?_))))))
 obtain ⟨l7,l9,b11,e12,h⟩:=zt h
 refine L.doesP (A:=(z8 gP69 gP73 gP152 qP69 A69 qP73 A73)) (M:=(zd gP114 qP114 A114 gP152 qP152 A152)) rfl (by kernel_rfl) rfl (fun w' hw=>W22 a0 x2 A69 A73 gP69 gP73 gP152 qP69 qP73 w' _ e12 _ hw.lend) ?_
 rintro _ _ ⟨v8,v10,rfl,rfl⟩
 refine L.to (D:=Cls w F (tQH gP69 gP73 gP152 qP69 A69::tQC gP73 qP73 A73::tQn v8 l7 gP73::tQn v10 l9 gP73::zd gP114 qP114 A114 gP152 qP152 A152)) hI ?_
 obtain ⟨th13,eth13,h⟩:=qc h
 refine L.to (D:=Cls w F (tQa gP69 a0 gP152 th13 qP69::ka qP69 a0 th13 gP73::jh qP69 a0 th13 gP73::tQj th13::tQe qP69 a0 th13::tQu gP69 gP73 gP152 qP69 A69 a0::tQC gP73 qP73 A73::tQn v8 l7 gP73::tQn v10 l9 gP73::zd gP114 qP114 A114 gP152 qP152 A152)) (fun _ hw=>hw.aO 0 rfl eth13) (L.r 3 rfl (L.iteB h rfl (Y.extract rfl rfl) (fun c14 h=>?_) (fun c14 h=>?_)))
 ·refine L.r 3 rfl (ln (W.seq (sr (L.r 1 rfl (L.y rfl (Y.not rfl) (ln (W.condF rfl (W.skip (E.thenN (W.seq ?_))))))))))
  refine sr (L.r 2 rfl (L.to (D:=Cls w F (tQH gP69 gP73 gP152 qP69 A69::tQC gP73 qP73 A73::tQn v8 l7 gP73::tQn v10 l9 gP73::zd gP114 qP114 A114 gP152 qP152 A152)) (fun _ hw=>hw.aS [0,1,2,3,4,5,6,7,8,9,10] eth13 rfl) (L.to (D:=Cls w F (tQH gP69 gP73 gP152 qP69 A69::tQC gP73 qP73 A73::qff gP114 qP114 A114 gP152 qP152 A152 v8 l7 gP73 v10 l9)) (sI [0,1,4,5,2,3]) ?_)))
  obtain ⟨l15,l16,l17,x18,e19,h⟩:=qbc h
  refine L.doesP (A:=(qas gP69 gP73 gP152 qP69 A69 qP73 A73 gP114 qP114 A114 qP152 A152)) (M:=[tQn v8 l7 gP73,tQn v10 l9 gP73]) rfl (by kernel_rfl) rfl (fun w' hw=>W24 a0 x2 A69 A73 A114 A152 gP69 gP73 gP114 gP152 qP69 qP73 qP114 qP152 w' _ e19 _ hw.lend) ?_
  rintro _ _ ⟨q20,q21,q22,rfl,rfl⟩
  refine L.to (D:=Cls w F (tQH gP69 gP73 gP152 q20 l15::tQC gP73 qP73 A73::qff gP114 q21 l16 gP152 q22 l17 v8 l7 gP73 v10 l9)) hI ?_
  obtain ⟨th23,eth23,h⟩:=qc h
  refine L.to (D:=Cls w F [tQa gP69 a0 gP152 th23 q20,ka q20 a0 th23 gP73,jh q20 a0 th23 gP73,tQj th23,tQe q20 a0 th23,tQu gP69 gP73 gP152 q20 l15 a0,tQC gP73 qP73 A73,tQt gP114 q21 l16,tQw gP114 gP152 q22 l17,tQn v8 l7 gP73,tQn v10 l9 gP73]) (fun _ hw=>hw.aO 0 rfl eth23) (L.r 1 rfl (nsr (L.r 1 rfl (L.ite h rfl (Y.neq rfl rfl) (fun c24 h=>?_) (fun c24 h=>?_)))))
  ·refine ln (W.condT rfl (sr (L.r 2 rfl (ln (W.ret (E.thenR (E.to (D:=Cls w F (tQH gP69 gP73 gP152 q20 l15::tQC gP73 qP73 A73::qff gP114 q21 l16 gP152 q22 l17 v8 l7 gP73 v10 l9)) (fun _ hw=>hw.aS [0,1,2,3,4,5,6,7,8,9,10] eth23 rfl) (E.ret1 rfl rfl (fun w1 hw=>?_)))))))))
   cases h
   exact ⟨_,_,rfl,⟨_,_,_,_,rfl,rfl⟩,hw.s [0,1,2,3]⟩
  refine ln (W.condF rfl (W.skip (E.thenN (sr (L.r 1 rfl (L.y rfl (Y.apNil rfl eth23) (L.y rfl (Y.fieldP vN rfl) ?_)))))))
  obtain ⟨_,en25,h⟩:=qc h
  obtain ⟨_,en25⟩:=qd en25
  refine L.y rfl (Y.loadG (q:=0) (si:=4) (ps:=5) (j:=0) (X:=[qfH th23]) ag3 rfl rfl rfl rfl (by simp [zl,en25]) rfl) (L.m (V:=fun x26=>.int .i64 x26) h rfl (Y.addM rfl rfl) (fun x26 ex26 h=>(L.y rfl (Y.apNil rfl eth23) (L.y rfl (Y.fieldP vN rfl) (L.storeG (q:=0) (si:=4) (ps:=5) (j:=0) (X:=[qfH th23]) (vals:=(jX x26)) sz3 rfl rfl rfl rfl rfl (by simp [Value.oneCell',Value.cells,st,pt,el]) rfl rfl (by simp [zl,en25]) rfl (nsr (L.r 2 rfl (L.y rfl (Y.apNil rfl eth23) (L.y rfl (Y.fieldP vN rfl) (L.y rfl (Y.loadG (q:=0) (si:=4) (ps:=5) (j:=0) (X:=(jX x26)) ag3 rfl rfl rfl rfl (by simp [zl,en25]) rfl) (L.to (D:=Cls w F [.obj (gP69 a0.toNat) (List.flatten [(zr (fzr (PR gP152)) (fun _=>[]) th23.logs_).flatten,[.int .i64 th23.half_],[.int .i64 th23.gen_],[.bool th23.down_],[.int .i64 x26],(zr qh (qV ([(gv (q20 a0.toNat) 0),(gv (q20 a0.toNat) 1)]++ghl (qV (q20 a0.toNat) 2) th23.items_.length) 2) th23.items_).flatten,[(gv (q20 a0.toNat) 0)],[(gv (q20 a0.toNat) 1)]]) 69,.sl (gv (q20 a0.toNat) 0) 70 1 (th23.active_.map (PR gP73)),.sl (gv (q20 a0.toNat) 1) 70 1 (th23.over_.map (PR gP73)),.ss (zs sd0 (fun _=>[]) th23.logs_),.ss (zs (qF 84 2 TVersion.row) (qV ([(gv (q20 a0.toNat) 0),(gv (q20 a0.toNat) 1)]++ghl (qV (q20 a0.toNat) 2) th23.items_.length) 2) th23.items_),zg gP69 gP73 gP152 q20 l15 (a0.toNat :: []),zE gP73 qP73 A73 [],qS gP114 q21 l16 [],qY gP114 gP152 q22 l17 [],.sl v8 70 1 (l7.map (PR gP73)),.sl v10 70 1 (l9.map (PR gP73))]) (fun _ hw=>by rw [xz (k8 q20 a0) _ 2 _ rfl,xy (k8 q20 a0) _ 2 _ rfl];exact hw) ?_)))))))))))
  obtain ⟨l28,el28,h⟩:=qc h
  refine L.aC (row:=TStore.rowA gP73 gP152) (sub:=TStore.subA gP73 gP152) (e:=69) (g:=gP69) (gh:=q20) (vs':=((k8 q20 a0)++ghl (jD q20 a0) th23.items_.length)) (m':=(tQC gP73 qP73 A73::qff gP114 q21 l16 gP152 q22 l17 v8 l7 gP73 v10 l9)) [0,1,2,3,4,5,6,7,8,9,10] el28 rfl ?_
  intro q27
  refine L.to (D:=Cls w F (tQH gP69 gP73 gP152 q27 l28::tQC gP73 qP73 A73::qff gP114 q21 l16 gP152 q22 l17 v8 l7 gP73 v10 l9)) hI ?_
  obtain ⟨th29,eth29,h⟩:=qc h
  refine L.to (D:=Cls w F [tQb gP73 x2 th29 qP73,xW qP73 x2 th29,xX qP73 x2 th29,tQz th29,tQL gP73 qP73 A73 x2,tQH gP69 gP73 gP152 q27 l28,tQt gP114 q21 l16,tQw gP114 gP152 q22 l17,tQn v8 l7 gP73,tQn v10 l9 gP73]) (fun _ hw=>hw.aO 1 rfl eth29) (L.y rfl (Y.apNil rfl eth29) (L.y rfl (Y.fieldP qc1 rfl) (L.storeG (q:=0) (si:=2) (ps:=2) (j:=0) (X:=[.int .i64 th29.at_]) (vals:=(jX x26)) sz3 rfl rfl rfl rfl rfl (by simp [Value.oneCell',Value.cells,st,pt,el]) rfl rfl rfl rfl (ln (W.seqJ (fun gs D=>∃ gl1 gq2,gs=[(0,VP gP69 a0),(5,VP gP73 x2),(8,v10)]∧D=Cls w F (tQC gP73 gq2 gl1::qjC gP69 gP73 gP152 q27 l28 gP114 q21 l16 q22 l17 v10 l9)∧qhN l9 x2 a0 l16 l17 l28 gl1=some r) ?_ ?_)))))
  ·refine sr (L.r 1 rfl (L.y rfl (Y.lenM (g:=(PR gP73)) (l:=l7) Tryz.underlying67 rfl (fun w hw=>As.at_ (hw.get (i:=8) rfl))) (L.r 1 rfl (ln (W.block ?_)))))
   obtain ⟨l103,el103,h⟩:=qc h
   refine W.aC (row:=Ttx.rowA) (sub:=Ttx.subA) (e:=73) (g:=gP73) (gh:=qP73) (vs':=((k8 qP73 x2))) (m':=(tQH gP69 gP73 gP152 q27 l28::qff gP114 q21 l16 gP152 q22 l17 v8 l7 gP73 v10 l9)) [0,1,2,3,4,5,6,7,8,9] el103 rfl ?_
   intro q102
   refine W.to (D:=Cls w F (tQC gP73 q102 l103::tQH gP69 gP73 gP152 q27 l28::qff gP114 q21 l16 gP152 q22 l17 v8 l7 gP73 v10 l9)) hI (W.loopJ (fun m gs D=>∃ gx13 gl14 gq15,gs=[(0,VP gP69 a0),(5,VP gP73 x2),(8,v10),(58,v8),(59,.int .i64 (l7.length:Int)),(60,qI gx13)]∧D=Cls w F (tQC gP73 gq15 gl14::tQH gP69 gP73 gP152 q27 l28::qff gP114 q21 l16 gP152 q22 l17 v10 l9 gP73 v8 l7)∧qap l7 x2 l9 a0 l16 l17 l28 m gx13 gl14=some r) ⟨0,l103,q102,rfl,rfl,h⟩ ⟨rfl,rfl,rfl,rfl,rfl,rfl,trivial⟩ (sI [0,1,2,3,5,4]) ?_)
   rintro m _ _ ⟨gx13,gl14,gq15,rfl,rfl,h⟩
   rcases m with _ | m
   ·rw [qap] at h;cases h
   rw [qap] at h
   generalize hg3:qap l7 x2 l9 a0 l16 l17 l28 m=go3 at h
   rw [qee] at h
   refine sr (L.ite h rfl (Y.lss rfl rfl) (fun c104 h=>?_) (fun c104 h=>?_))
   ·refine ln (W.seq (W.condT rfl (W.skip (E.thenN (W.seq (W.block (sr (L.m (V:=fun _=>el v8 (zG gx13)) h rfl (Y.indexM (g:=(PR gP73)) (l:=l7) Tryz.underlying67 qau rfl rfl (fun w hw=>As.at_ (hw.get (i:=5) rfl))) (fun x105 ex105 h=>(L.y rfl (Y.loadE1 (u:=VP gP73 x105) qfm rfl (fun w hw=>As.at_ (hw.get (i:=5) rfl)) (qf ex105)) (L.r 1 rfl (L.nil ?_))))))))))))
    refine E.thenN (W.region (L.r 2 rfl ?_))
    obtain ⟨th106,eth106,h⟩:=qc h
    refine L.to (D:=Cls w F [tQb gP73 x105 th106 gq15,xW gq15 x105 th106,xX gq15 x105 th106,tQz th106,tQL gP73 gq15 gl14 x105,tQH gP69 gP73 gP152 q27 l28,tQt gP114 q21 l16,tQw gP114 gP152 q22 l17,tQn v10 l9 gP73,tQn v8 l7 gP73]) (fun _ hw=>hw.aO 0 rfl eth106) (L.y rfl (Y.apNil rfl eth106) (L.y rfl (Y.fieldP qgz rfl) ?_))
    obtain ⟨_,en107,h⟩:=qc h
    obtain ⟨_,en107⟩:=qd en107
    refine L.storeG (q:=0) (si:=6) (ps:=25) (j:=0) (X:=[.bool th106.in_]) (vals:=[.bool true]) sz4 rfl rfl rfl rfl rfl (by simp [Value.oneCell',Value.cells,st,pt,el]) rfl rfl (by simp [zl,en107]) rfl ?_
    obtain ⟨l109,el109,h⟩:=qc h
    refine L.aC (row:=Ttx.rowA) (sub:=Ttx.subA) (e:=73) (g:=gP73) (gh:=gq15) (vs':=((k8 gq15 x105))) (m':=(tQH gP69 gP73 gP152 q27 l28::qff gP114 q21 l16 gP152 q22 l17 v10 l9 gP73 v8 l7)) [0,1,2,3,4,5,6,7,8,9] el109 rfl ?_
    intro q108
    refine L.to (D:=Cls w F (tQC gP73 q108 l109::tQH gP69 gP73 gP152 q27 l28::qff gP114 q21 l16 gP152 q22 l17 v10 l9 gP73 v8 l7)) hI ?_
    obtain ⟨th110,eth110,h⟩:=qc h
    refine L.to (D:=Cls w F [tQb gP73 x2 th110 q108,xW q108 x2 th110,xX q108 x2 th110,tQz th110,tQL gP73 q108 l109 x2,tQH gP69 gP73 gP152 q27 l28,tQt gP114 q21 l16,tQw gP114 gP152 q22 l17,tQn v10 l9 gP73,tQn v8 l7 gP73]) (fun _ hw=>hw.aO 0 rfl eth110) (L.y rfl (Y.apNil rfl eth110) (L.y rfl (Y.fieldP qgy rfl) ?_))
    obtain ⟨_,en111,h⟩:=qc h
    obtain ⟨_,en111⟩:=qd en111
    refine L.storeG (q:=0) (si:=7) (ps:=26) (j:=0) (X:=[.bool th110.out_]) (vals:=[.bool true]) sz4 rfl rfl rfl rfl rfl (by simp [Value.oneCell',Value.cells,st,pt,el]) rfl rfl (by simp [zl,en111]) rfl (L.nil (E.blockN (E.thenN (W.region (L.m (V:=fun x112=>qI x112) h rfl (Y.addM rfl rfl) (fun x112 ex112 h=>(L.r 1 rfl (L.nil ?_))))))))
    obtain ⟨l114,el114,h⟩:=qc h
    refine E.aC (row:=Ttx.rowA) (sub:=Ttx.subA) (e:=73) (g:=gP73) (gh:=q108) (vs':=((k8 q108 x2))) (m':=(tQH gP69 gP73 gP152 q27 l28::qff gP114 q21 l16 gP152 q22 l17 v10 l9 gP73 v8 l7)) [0,1,2,3,4,5,6,7,8,9] el114 rfl ?_
    intro q113
    exact E.to (D:=Cls w F (tQC gP73 q113 l114::tQH gP69 gP73 gP152 q27 l28::qff gP114 q21 l16 gP152 q22 l17 v10 l9 gP73 v8 l7)) hI (E.aJ ⟨x112,l114,q113,rfl,rfl,by rw [hg3];exact h⟩ hI)
   exact ln (W.seq (W.condF rfl (W.exit (E.thenX (E.KLX (E.blockX (E.jJ ⟨gl14,gq15,rfl,rfl,h⟩ (sI [0,1,2,3,4]))))))))
  rintro _ _ ⟨gl1,gq2,rfl,rfl,h⟩
  rw [qhN] at h
  refine W.seqJ (fun gs D=>∃ gl3 gq4,gs=[(0,VP gP69 a0),(5,VP gP73 x2)]∧D=Cls w F (tQC gP73 gq4 gl3::tQH gP69 gP73 gP152 q27 l28::zd gP114 q21 l16 gP152 q22 l17)∧qhM x2 a0 l16 l17 l28 gl3=some r) ?_ ?_
  ·refine sr (L.r 1 rfl (L.y rfl (Y.lenM (g:=(PR gP73)) (l:=l9) Tryz.underlying67 rfl (fun w hw=>As.at_ (hw.get (i:=4) rfl))) (L.r 1 rfl (ln (W.block (W.loopJ (fun m gs D=>∃ gx10 gl11 gq12,gs=[(0,VP gP69 a0),(5,VP gP73 x2),(71,v10),(72,.int .i64 (l9.length:Int)),(73,qI gx10)]∧D=Cls w F (tQC gP73 gq12 gl11::qjC gP69 gP73 gP152 q27 l28 gP114 q21 l16 q22 l17 v10 l9)∧qaq l9 x2 a0 l16 l17 l28 m gx10 gl11=some r) ⟨0,gl1,gq2,rfl,rfl,h⟩ ⟨rfl,rfl,rfl,rfl,rfl,trivial⟩ hI ?_))))))
   rintro m _ _ ⟨gx10,gl11,gq12,rfl,rfl,h⟩
   rcases m with _ | m
   ·rw [qaq] at h;cases h
   rw [qaq] at h
   generalize hg2:qaq l9 x2 a0 l16 l17 l28 m=go2 at h
   rw [qef] at h
   refine sr (L.ite h rfl (Y.lss rfl rfl) (fun c91 h=>?_) (fun c91 h=>?_))
   ·refine ln (W.seq (W.condT rfl (W.skip (E.thenN (W.seq (W.block (sr (L.m (V:=fun _=>el v10 (zG gx10)) h rfl (Y.indexM (g:=(PR gP73)) (l:=l9) Tryz.underlying67 qau rfl rfl (fun w hw=>As.at_ (hw.get (i:=4) rfl))) (fun x92 ex92 h=>(L.y rfl (Y.loadE1 (u:=VP gP73 x92) qfm rfl (fun w hw=>As.at_ (hw.get (i:=4) rfl)) (qf ex92)) (L.r 1 rfl (L.nil ?_))))))))))))
    refine E.thenN (W.region (L.r 2 rfl ?_))
    obtain ⟨th93,eth93,h⟩:=qc h
    refine L.to (D:=Cls w F (tQb gP73 x92 th93 gq12::xW gq12 x92 th93::xX gq12 x92 th93::tQz th93::tQL gP73 gq12 gl11 x92::qjC gP69 gP73 gP152 q27 l28 gP114 q21 l16 q22 l17 v10 l9)) (fun _ hw=>hw.aO 0 rfl eth93) (L.y rfl (Y.apNil rfl eth93) (L.y rfl (Y.fieldP qgy rfl) ?_))
    obtain ⟨_,en94,h⟩:=qc h
    obtain ⟨_,en94⟩:=qd en94
    refine L.storeG (q:=0) (si:=7) (ps:=26) (j:=0) (X:=[.bool th93.out_]) (vals:=[.bool true]) sz4 rfl rfl rfl rfl rfl (by simp [Value.oneCell',Value.cells,st,pt,el]) rfl rfl (by simp [zl,en94]) rfl ?_
    obtain ⟨l96,el96,h⟩:=qc h
    refine L.aC (row:=Ttx.rowA) (sub:=Ttx.subA) (e:=73) (g:=gP73) (gh:=gq12) (vs':=((k8 gq12 x92))) (m':=(qjC gP69 gP73 gP152 q27 l28 gP114 q21 l16 q22 l17 v10 l9)) [0,1,2,3,4,5,6,7,8] el96 rfl ?_
    intro q95
    refine L.to (D:=Cls w F (tQC gP73 q95 l96::qjC gP69 gP73 gP152 q27 l28 gP114 q21 l16 q22 l17 v10 l9)) hI ?_
    obtain ⟨th97,eth97,h⟩:=qc h
    refine L.to (D:=Cls w F (tQb gP73 x2 th97 q95::xW q95 x2 th97::xX q95 x2 th97::tQz th97::tQL gP73 q95 l96 x2::qjC gP69 gP73 gP152 q27 l28 gP114 q21 l16 q22 l17 v10 l9)) (fun _ hw=>hw.aO 0 rfl eth97) (L.y rfl (Y.apNil rfl eth97) (L.y rfl (Y.fieldP qgz rfl) ?_))
    obtain ⟨_,en98,h⟩:=qc h
    obtain ⟨_,en98⟩:=qd en98
    refine L.storeG (q:=0) (si:=6) (ps:=25) (j:=0) (X:=[.bool th97.in_]) (vals:=[.bool true]) sz4 rfl rfl rfl rfl rfl (by simp [Value.oneCell',Value.cells,st,pt,el]) rfl rfl (by simp [zl,en98]) rfl (L.nil (E.blockN (E.thenN (W.region (L.m (V:=fun x99=>.int .i64 x99) h rfl (Y.addM rfl rfl) (fun x99 ex99 h=>(L.r 1 rfl (L.nil ?_))))))))
    obtain ⟨l101,el101,h⟩:=qc h
    refine E.aC (row:=Ttx.rowA) (sub:=Ttx.subA) (e:=73) (g:=gP73) (gh:=q95) (vs':=((k8 q95 x2))) (m':=(qjC gP69 gP73 gP152 q27 l28 gP114 q21 l16 q22 l17 v10 l9)) [0,1,2,3,4,5,6,7,8] el101 rfl ?_
    intro q100
    exact E.to (D:=Cls w F (tQC gP73 q100 l101::qjC gP69 gP73 gP152 q27 l28 gP114 q21 l16 q22 l17 v10 l9)) hI (E.aJ ⟨x99,l101,q100,rfl,rfl,by rw [hg2];exact h⟩ hI)
   exact ln (W.seq (W.condF rfl (W.exit (E.thenX (E.KLX (E.blockX (E.jJ ⟨gl11,gq12,rfl,rfl,h⟩ (sI [0,1,2,3]))))))))
  rintro _ _ ⟨gl3,gq4,rfl,rfl,h⟩
  rw [qhM] at h
  refine W.seqJ (fun gs D=>∃ gl5 gq6,gs=[(0,VP gP69 a0),(5,VP gP73 x2)]∧D=Cls w F (tQC gP73 gq4 gl3::tQH gP69 gP73 gP152 gq6 gl5::zd gP114 q21 l16 gP152 q22 l17)∧qhL a0 x2 gl3 l16 l17 gl5=some r) ?_ ?_
  ·refine sr (L.r 1 rfl ?_)
   obtain ⟨th42,eth42,h⟩:=qc h
   refine L.to (D:=Cls w F (tQb gP73 x2 th42 gq4::xW gq4 x2 th42::xX gq4 x2 th42::tQz th42::tQL gP73 gq4 gl3 x2::tQH gP69 gP73 gP152 q27 l28::zd gP114 q21 l16 gP152 q22 l17)) (fun _ hw=>hw.aO 0 rfl eth42) (L.y rfl (Y.apNil rfl eth42) (L.y rfl (Y.fieldP xw rfl) (L.y rfl (Y.loadG (q:=0) (si:=4) (ps:=4) (j:=0) (X:=[(tQh gq4 x2)]) jy rfl rfl rfl rfl rfl rfl) (L.y rfl (Y.lenM (g:=I) (l:=th42.writes_) Tryz.underlying52 rfl (fun w hw=>As.at_ (hw.get (i:=2) rfl))) (L.r 1 rfl (ln (W.block (W.loopJ (fun m gs D=>∃ gx7 gl8 gq9,gs=[(0,VP gP69 a0),(5,VP gP73 x2),(87,(tQh gq4 x2)),(88,.int .i64 (th42.writes_.length:Int)),(89,.int .i64 gx7)]∧D=Cls w F [tQL gP73 gq4 gl3 x2,tQH gP69 gP73 gP152 gq9 gl8,tQt gP114 q21 l16,tQw gP114 gP152 q22 l17,tQb gP73 x2 th42 gq4,tQz th42,xX gq4 x2 th42,xW gq4 x2 th42]∧qar th42 a0 x2 gl3 l16 l17 m gx7 gl8=some r) ⟨0,l28,q27,rfl,rfl,h⟩ ⟨rfl,rfl,rfl,rfl,rfl,trivial⟩ (sI [4,5,6,7,0,3,2,1]) ?_))))))))
   rintro m _ _ ⟨gx7,gl8,gq9,rfl,rfl,h⟩
   rcases m with _ | m
   ·rw [qar] at h;cases h
   rw [qar] at h
   generalize hg1:qar th42 a0 x2 gl3 l16 l17 m=go1 at h
   rw [qeg] at h
   refine sr (L.ite h rfl (Y.lss rfl rfl) (fun c43 h=>?_) (fun c43 h=>?_))
   ·refine ln (W.seq (W.condT rfl (W.skip (E.thenN (W.seq (W.block (sr (L.m (V:=fun _=>el (tQh gq4 x2) (zG gx7)) h rfl (Y.indexM (g:=I) (l:=th42.writes_) Tryz.underlying52 sz3 rfl rfl (fun w hw=>As.at_ (hw.get (i:=6) rfl))) (fun x44 ex44 h=>(L.y rfl (Y.loadE1 (u:=.int .i64 x44) ag3 rfl (fun w hw=>As.at_ (hw.get (i:=6) rfl)) (qf ex44)) (L.r 1 rfl (L.nil ?_))))))))))))
    refine E.thenN ?_
    obtain ⟨th45,eth45,h⟩:=qc h
    refine W.to (D:=Cls w F (tQa gP69 a0 gP152 th45 gq9::ka gq9 a0 th45 gP73::jh gq9 a0 th45 gP73::tQj th45::tQe gq9 a0 th45::tQu gP69 gP73 gP152 gq9 gl8 a0::tQY gP73 gq4 gl3 x2 gP114 q21 l16 gP152 q22 l17 th42)) (fun _ hw=>hw.aO 1 rfl eth45) (W.drawn2 (k:=25) (stC [[20,24],[24]] [Cls w F (tQa gP69 a0 gP152 th45 gq9::ka gq9 a0 th45 gP73::jh gq9 a0 th45 gP73::tQj th45::tQe gq9 a0 th45::tQu gP69 gP73 gP152 gq9 gl8 a0::tQY gP73 gq4 gl3 x2 gP114 q21 l16 gP152 q22 l17 th42),Cls w F (tQa gP69 a0 gP152 th45 gq9::ka gq9 a0 th45 gP73::jh gq9 a0 th45 gP73::tQj th45::tQu gP69 gP73 gP152 gq9 gl8 a0::tQY gP73 gq4 gl3 x2 gP114 q21 l16 gP152 q22 l17 th42)] (Cls w F (ka gq9 a0 th45 gP73::jh gq9 a0 th45 gP73::tQj th45::tQu gP69 gP73 gP152 gq9 gl8 a0::tQY gP73 gq4 gl3 x2 gP114 q21 l16 gP152 q22 l17 th42))) rfl mixed (fun _ hw=>hw.drew) (Sc.now (by kernel_rfl) hI) (V2.zz [] (Zc.on' (Zc.on' (Zc.fin hI) (sI [1,2,3,4,5,6,7,8,9,10,11])) (sI [1,2,3,5,6,7,8,9,10,11,12])) (fun hz75=>(V2.r [0,1,2,3] (by kernel_rfl) rfl (V2.apNil (i:=4) (Nx2.of [] (by kernel_rfl) rfl hz75) rfl rfl rfl eth45 (V2.q 5 [] hz75 rfl rfl (Y.fieldP kI rfl) (V2.zz [24] (Zc.on' (Zc.at1 hI) (sI [0,1,2,3,5,6,7,8,9,10,11,12])) (fun hz76=>(V2.m (i:=6) (V':=fun _=>pt (gP69 a0.toNat) (6+x44.toNat*1)) h (Nx2.of [24] (by kernel_rfl) rfl hz76) rfl rfl rfl (Y.indexAS (l:=th45.items_) Tryz.underlying66 qfi rfl rfl) (fun x77 ex77 h=>?_))))))))))
    obtain ⟨_,en78,h⟩:=qc h
    obtain ⟨_,en78⟩:=qd en78
    refine V2.q 7 [24] hz76 rfl rfl (Y.loadZg (si:=5) (ps:=6) (q:=0) (row:=qh) (vs:=(jD gq9 a0)) (j:=0) (pv:=gv ((jD gq9 a0) x44.toNat) 0) qnB rfl rfl rfl rfl (by simp [zl,en78]) (fun _ _=>rfl) (qg ex77) rfl) (V2.r [8] (by kernel_rfl) rfl (V2.apNil (i:=9) (Nx2.of [] (by kernel_rfl) rfl hz75) rfl rfl rfl eth45 (V2.q 10 [] hz75 rfl rfl (Y.fieldP vN rfl) (V2.q 11 [24] hz76 rfl rfl (Y.loadG (q:=0) (si:=4) (ps:=5) (j:=0) (X:=[qfH th45]) ag3 rfl rfl rfl rfl (by simp [zl,en78]) rfl) (V2.r [12,13] (by kernel_rfl) rfl (V2.apNil (i:=14) (Nx2.of [] (by kernel_rfl) rfl hz75) rfl rfl rfl eth42 (V2.q 15 [] hz75 rfl rfl (Y.fieldP qa5 rfl) (V2.m (i:=16) (V':=fun _=>pt (gP73 x2.toNat) (5+x44.toNat*1)) h (Nx2.of [] (by kernel_rfl) rfl hz75) rfl rfl rfl (Y.indexAS (l:=th42.texts_) Tryz.underlying59 sz9 rfl rfl) (fun x79 ex79 h=>(V2.q 17 [] hz75 rfl rfl (Y.loadZg (si:=5) (ps:=5) (q:=7) (row:=(fzr SR)) (vs:=(fun _=>[])) (j:=0) (pv:=st x79) ag9 rfl rfl rfl rfl rfl (fun _ _=>rfl) (qg ex79) rfl) (V2.q 18 [] hz75 rfl rfl (Y.build (cells:=#[qfH th45,st x79]) rfl (by kernel_rfl)) (V2.apNil (i:=21) (Nx2.of [] (by kernel_rfl) rfl hz75) rfl rfl rfl eth45 (V2.q 22 [] hz75 rfl rfl (Y.fieldP kI rfl) (V2.eff (i:=19) (by kernel_rfl) rfl ?_))))))))))))))
    refine L.litAgg rfl Tryz.underlying65 qjV rfl rfl rfl ?_
    intro b80
    refine L.nil (E.toV2 (stC [[20,24],[24]] [Cls w F (qjH b80 th45 x79::tQa gP69 a0 gP152 th45 gq9::ka gq9 a0 th45 gP73::jh gq9 a0 th45 gP73::tQj th45::tQe gq9 a0 th45::tQu gP69 gP73 gP152 gq9 gl8 a0::tQY gP73 gq4 gl3 x2 gP114 q21 l16 gP152 q22 l17 th42),Cls w F (qjH b80 th45 x79::tQa gP69 a0 gP152 th45 gq9::ka gq9 a0 th45 gP73::jh gq9 a0 th45 gP73::tQj th45::tQu gP69 gP73 gP152 gq9 gl8 a0::tQY gP73 gq4 gl3 x2 gP114 q21 l16 gP152 q22 l17 th42)] (Cls w F (qjH b80 th45 x79::ka gq9 a0 th45 gP73::jh gq9 a0 th45 gP73::tQj th45::tQu gP69 gP73 gP152 gq9 gl8 a0::tQY gP73 gq4 gl3 x2 gP114 q21 l16 gP152 q22 l17 th42))) 19 (by kernel_rfl) (Sc.stay (sI [1,2,3,4,5,6,7,8,9,10,11,12,13]) (Sc.stay (sI [1,2,3,4,5,6,7,8,9,10,11,12]) (Sc.stayD (sI [1,2,3,4,5,6,7,8,9,10,11])))) (Sc.now (by kernel_rfl) hI) (V2.eff (i:=20) (by kernel_rfl) rfl (L.ssOut (sds:=yu) (vs:=(jD gq9 a0)) (s:=5) (j:=0) (c:=1) rfl (fun _ _=>rfl) (qg ex77) rfl (L.appM (i:=0) (g:=TVersion.row) (l:=x77) (more:=[(⟨th45.now_,x79⟩:TVersion)]) h rfl Tryz.underlying65 qjV rfl rfl rfl (fun w hw=>As.at_ (hw.get (i:=1) rfl)) (z1 _) rfl ?_))))
    intro v81 l82 el82 h
    refine L.nil (E.toV2 (stC [[24]] [Cls w F (.sl v81 84 2 (qfg l82)::qjH b80 th45 x79::tQa gP69 a0 gP152 th45 gq9::ka gq9 a0 th45 gP73::jh gq9 a0 th45 gP73::tQj th45::tQu gP69 gP73 gP152 gq9 gl8 a0::tQY gP73 gq4 gl3 x2 gP114 q21 l16 gP152 q22 l17 th42)] (Cls w F (qjH b80 th45 x79::ka gq9 a0 th45 gP73::jh gq9 a0 th45 gP73::tQj th45::tQu gP69 gP73 gP152 gq9 gl8 a0::tQY gP73 gq4 gl3 x2 gP114 q21 l16 gP152 q22 l17 th42))) 20 (by kernel_rfl) (Sc.past rfl (Sc.stay (sI [1,2,3,4,5,6,7,8,9,10,11,12,13]) (Sc.stayD hI))) (Sc.now (by kernel_rfl) (sI [0,1,2,3,4,5,7,8,9,10,11,12,13,14])) (V2.zz [24] (Zc.at1 hI) (fun hz84=>(V2.m (i:=23) (V':=fun _=>pt (gP69 a0.toNat) (6+x44.toNat*1)) h (Nx2.of [24] (by kernel_rfl) rfl hz84) rfl rfl rfl (Y.indexAS (l:=th45.items_) Tryz.underlying66 qfi rfl rfl) (fun x85 ex85 h=>(V2.eff (i:=24) (by kernel_rfl) rfl (L.storeZSg (si:=5) (ps:=6) (row:=qh) (sds:=yu) (vs:=(jD gq9 a0)) (q:=2) (p:=0) (s:=6) (c:=1) (jj:=0) (u1:=l82) (v1:=[v81]) (j:=0) h qfi rfl rfl rfl rfl rfl (by simp [zl,en78]) rfl rfl (.inr rfl) (fun _ _=>rfl) (fun _ _=>rfl) (qg ex85) rfl rfl rfl rfl ?_)))))))
    intro l86 q87 el86 h
    refine L.nil (E.toV2 (stC [] [] (Cls w F (qjH b80 th45 x79::ka gq9 a0 th45 gP73::jh gq9 a0 th45 gP73::tQj th45::tQu gP69 gP73 gP152 gq9 gl8 a0::tQY gP73 gq4 gl3 x2 gP114 q21 l16 gP152 q22 l17 th42))) 24 (by kernel_rfl) (Sc.past rfl (Sc.stayD hI)) (Sc.atD (sI [0,2,3,4,6,7,8,9,10,11,12,13])) (V2.done (by kernel_rfl) (E.blockN (E.thenN (W.region (L.m (V:=fun x88=>.int .i64 x88) h rfl (Y.addM rfl rfl) (fun x88 ex88 h=>(L.r 1 rfl (L.nil (E.to (D:=Cls w F [.sl (sv b80 1) 84 2 (([(⟨th45.now_,x79⟩:TVersion)]).map TVersion.row),.obj (gP69 a0.toNat) (List.flatten [(zr (fzr (PR gP152)) (fun _=>[]) th45.logs_).flatten,[.int .i64 th45.half_],[.int .i64 th45.gen_],[.bool th45.down_],[.int .i64 th45.now_],(zr qh (qV ([(gv (gq9 a0.toNat) 0),(gv (gq9 a0.toNat) 1)]++ghl q87 l86.length) 2) l86).flatten,[(gv (gq9 a0.toNat) 0)],[(gv (gq9 a0.toNat) 1)]]) 69,.sl (gv (gq9 a0.toNat) 0) 70 1 (th45.active_.map (PR gP73)),.sl (gv (gq9 a0.toNat) 1) 70 1 (th45.over_.map (PR gP73)),.ss (zs sd0 (fun _=>[]) th45.logs_),.ss (zs (qF 84 2 TVersion.row) (qV ([(gv (gq9 a0.toNat) 0),(gv (gq9 a0.toNat) 1)]++ghl q87 l86.length) 2) l86),zg gP69 gP73 gP152 gq9 gl8 (a0.toNat :: []),zE gP73 gq4 gl3 (x2.toNat :: []),qS gP114 q21 l16 [],qY gP114 gP152 q22 l17 [],.obj (gP73 x2.toNat) (List.flatten [[.int .i64 th42.id_],[.int .i64 th42.from_],[.int .i64 th42.at_],[(gv (gq4 x2.toNat) 0)],[(gv (gq4 x2.toNat) 1)],(zr (fzr SR) (fun _=>[]) th42.texts_).flatten,[.bool th42.in_],[.bool th42.out_]]) 73,.ss (zs sd0 (fun _=>[]) th42.texts_),.sl (gv (gq4 x2.toNat) 1) 3 1 (th42.writes_.map I),.sl (gv (gq4 x2.toNat) 0) 3 1 (th42.reads_.map I)]) (fun _ hw=>by rw [xz (k8 gq9 a0) _ 2 _ rfl,xy (k8 gq9 a0) _ 2 _ rfl];exact hw) ?_))))))))))
    obtain ⟨l90,el90,h⟩:=qc h
    refine E.aC (row:=TStore.rowA gP73 gP152) (sub:=TStore.subA gP73 gP152) (e:=69) (g:=gP69) (gh:=gq9) (vs':=((k8 gq9 a0)++ghl q87 l86.length)) (m':=(qjH b80 th45 x79::tQY gP73 gq4 gl3 x2 gP114 q21 l16 gP152 q22 l17 th42)) [1,2,3,4,5,6,0,7,8,9,10,11,12,13] el90 rfl ?_
    intro q89
    exact E.to (D:=Cls w F (tQH gP69 gP73 gP152 q89 l90::qjH b80 th45 x79::tQY gP73 gq4 gl3 x2 gP114 q21 l16 gP152 q22 l17 th42)) hI (E.aJ ⟨x88,l90,q89,rfl,rfl,by rw [hg1];exact h⟩ (sI [2,0,3,4,5,6,7,8]))
   exact ln (W.seq (W.condF rfl (W.exit (E.thenX (E.KLX (E.blockX (E.to (D:=Cls w F (tQC gP73 gq4 gl3::tQH gP69 gP73 gP152 gq9 gl8::zd gP114 q21 l16 gP152 q22 l17)) (fun _ hw=>hw.aS [4,7,6,5,0,1,2,3] eth42 rfl) (E.jJ ⟨gl8,gq9,rfl,rfl,h⟩ hI))))))))
  rintro _ _ ⟨gl5,gq6,rfl,rfl,h⟩
  rw [qhL] at h
  refine sr (L.r 2 rfl ?_)
  obtain ⟨th30,eth30,h⟩:=qc h
  refine L.to (D:=Cls w F (k7 gP69 a0 gP152 th30 gq6 gP73 gl5 gq4 gl3 gP114 q21 l16 q22 l17)) (fun _ hw=>hw.aO 1 rfl eth30) (L.y rfl (Y.apNil rfl eth30) (L.y rfl (Y.fieldP qa6 rfl) ?_))
  obtain ⟨_,en31,h⟩:=qc h
  obtain ⟨_,en31⟩:=qd en31
  obtain ⟨_,en32,h⟩:=qc h
  obtain ⟨_,en32⟩:=qd en32
  refine L.y rfl (Y.loadG (q:=0) (si:=7) (ps:=27) (j:=0) (X:=[(tQh gq6 a0)]) qj0 rfl rfl rfl rfl (by simp [zl,en31,en32]) rfl) (L.r 1 rfl (L.litOne rfl Tryz.underlying67 qhW rfl (zL _ _) ?_))
  intro b33
  refine L.appM (i:=3) (g:=(PR gP73)) (l:=th30.over_) (more:=[x2]) h rfl Tryz.underlying67 qhW rfl rfl rfl (fun w hw=>As.at_ (hw.get (i:=0) rfl)) (kj _) rfl ?_
  intro v34 l35 el35 h
  refine L.y rfl (Y.apNil rfl eth30) (L.y rfl (Y.fieldP qa6 rfl) (L.storeGV (q:=2) (si:=7) (ps:=27) (j:=0) (X:=[(tQh gq6 a0)]) qno rfl rfl rfl (fun _ hw=>(As.at_ (hw.get (i:=0) rfl)).one) rfl rfl (by simp [zl,en31,en32]) rfl (nsr (L.r 2 rfl (L.to (D:=Cls w F [.sl v34 70 1 (l35.map (PR gP73)),.sl (sv b33 1) 70 1 (([x2]).map (PR gP73)),.obj (gP69 a0.toNat) (List.flatten [(zr (fzr (PR gP152)) (fun _=>[]) th30.logs_).flatten,[.int .i64 th30.half_],[.int .i64 th30.gen_],[.bool th30.down_],[.int .i64 th30.now_],(zr qh (qV ([(gv (gq6 a0.toNat) 0),v34]++ghl (qV (gq6 a0.toNat) 2) th30.items_.length) 2) th30.items_).flatten,[(gv (gq6 a0.toNat) 0)],[v34]]) 69,.sl (gv (gq6 a0.toNat) 0) 70 1 (th30.active_.map (PR gP73)),.ss (zs sd0 (fun _=>[]) th30.logs_),.ss (zs (qF 84 2 TVersion.row) (qV ([(gv (gq6 a0.toNat) 0),v34]++ghl (qV (gq6 a0.toNat) 2) th30.items_.length) 2) th30.items_),zg gP69 gP73 gP152 gq6 gl5 (a0.toNat :: []),zE gP73 gq4 gl3 [],qS gP114 q21 l16 [],qY gP114 gP152 q22 l17 []]) (fun _ hw=>by rw [xz [(tQi gq6 a0),v34] _ 2 _ rfl,xy [(tQi gq6 a0),v34] _ 2 _ rfl];exact hw) ?_)))))
  obtain ⟨l37,el37,h⟩:=qc h
  refine L.aC (row:=TStore.rowA gP73 gP152) (sub:=TStore.subA gP73 gP152) (e:=69) (g:=gP69) (gh:=gq6) (vs':=([(tQi gq6 a0),v34]++ghl (jD gq6 a0) th30.items_.length)) (m':=(qku b33 x2 gP73::tQC gP73 gq4 gl3::zd gP114 q21 l16 gP152 q22 l17)) [2,3,0,4,5,6,1,7,8,9] el37 rfl ?_
  intro q36
  refine L.to (D:=Cls w F (tQH gP69 gP73 gP152 q36 l37::qku b33 x2 gP73::tQC gP73 gq4 gl3::zd gP114 q21 l16 gP152 q22 l17)) hI (L.to (D:=Cls w F (tQH gP69 gP73 gP152 q36 l37::tQC gP73 gq4 gl3::qku b33 x2 gP73::zd gP114 q21 l16 gP152 q22 l17)) (sI [0,2,1,3,4]) ?_)
  obtain ⟨l38,e39,h⟩:=qc h
  refine L.doesP (A:=(z8 gP69 gP73 gP152 q36 l37 gq4 gl3)) (M:=(qku b33 x2 gP73::zd gP114 q21 l16 gP152 q22 l17)) rfl (by kernel_rfl) rfl (fun w' hw=>W23 a0 x2 l37 gl3 gP69 gP73 gP152 q36 gq4 w' _ e39 _ hw.lend) ?_
  rintro _ _ ⟨q40,rfl,rfl⟩
  refine L.to (D:=Cls w F (tQH gP69 gP73 gP152 q40 l38::tQC gP73 gq4 gl3::qku b33 x2 gP73::zd gP114 q21 l16 gP152 q22 l17)) hI ?_
  obtain ⟨th41,eth41,h⟩:=qc h
  refine L.to (D:=Cls w F (tQa gP69 a0 gP152 th41 q40::ka q40 a0 th41 gP73::jh q40 a0 th41 gP73::tQj th41::tQe q40 a0 th41::tQu gP69 gP73 gP152 q40 l38 a0::tQC gP73 gq4 gl3::qku b33 x2 gP73::zd gP114 q21 l16 gP152 q22 l17)) (fun _ hw=>hw.aO 0 rfl eth41) (nsr (L.r 1 rfl (ln (W.ret (E.to (D:=Cls w F (tQH gP69 gP73 gP152 q40 l38::tQC gP73 gq4 gl3::qku b33 x2 gP73::zd gP114 q21 l16 gP152 q22 l17)) (fun _ hw=>hw.aS [0,1,2,3,4,5,6,7,8,9] eth41 rfl) (E.ret1 rfl rfl (fun w1 hw=>?_)))))))
  cases h
  exact ⟨_,_,rfl,⟨_,_,_,_,rfl,rfl⟩,hw.s [0,1,3,4]⟩
 refine L.r 3 rfl (ln (W.seq (sr (L.r 1 rfl (L.y rfl (Y.not rfl) (ln (W.condT rfl (sr (L.r 2 rfl ?_)))))))))
 refine L.to (D:=Cls w F (tQH gP69 gP73 gP152 qP69 A69::tQC gP73 qP73 A73::tQn v8 l7 gP73::tQn v10 l9 gP73::zd gP114 qP114 A114 gP152 qP152 A152)) (fun _ hw=>hw.aS [0,1,2,3,4,5,6,7,8,9,10] eth13 rfl) ?_
 obtain ⟨l115,e116,h⟩:=qc h
 refine L.doesP (A:=(z8 gP69 gP73 gP152 qP69 A69 qP73 A73)) (M:=(tQn v8 l7 gP73::tQn v10 l9 gP73::zd gP114 qP114 A114 gP152 qP152 A152)) rfl (by kernel_rfl) rfl (fun w' hw=>W23 a0 x2 A69 A73 gP69 gP73 gP152 qP69 qP73 w' _ e116 _ hw.lend) ?_
 rintro _ _ ⟨q117,rfl,rfl⟩
 refine L.to (D:=Cls w F (tQH gP69 gP73 gP152 q117 l115::tQC gP73 qP73 A73::tQn v8 l7 gP73::tQn v10 l9 gP73::zd gP114 qP114 A114 gP152 qP152 A152)) hI ?_
 obtain ⟨th118,eth118,h⟩:=qc h
 refine L.to (D:=Cls w F (tQa gP69 a0 gP152 th118 q117::ka q117 a0 th118 gP73::jh q117 a0 th118 gP73::tQj th118::tQe q117 a0 th118::tQu gP69 gP73 gP152 q117 l115 a0::tQC gP73 qP73 A73::tQn v8 l7 gP73::tQn v10 l9 gP73::zd gP114 qP114 A114 gP152 qP152 A152)) (fun _ hw=>hw.aO 0 rfl eth118) (nsr (L.r 1 rfl (ln (W.ret (E.thenR (E.to (D:=Cls w F (tQH gP69 gP73 gP152 q117 l115::tQC gP73 qP73 A73::tQn v8 l7 gP73::tQn v10 l9 gP73::zd gP114 qP114 A114 gP152 qP152 A152)) (fun _ hw=>hw.aS [0,1,2,3,4,5,6,7,8,9,10] eth118 rfl) (E.ret1 rfl rfl (fun w1 hw=>?_))))))))
 cases h
 exact ⟨_,_,rfl,⟨_,_,_,_,rfl,rfl⟩,hw.s [0,1,4,5]⟩
set_option maxRecDepth 100000 in
set_option maxHeartbeats 8000000 in
theorem W13 (a0:Int) (a1:(List Bool)) (A114:(List TDisk)) (gP114:Nat→Nat) (u1:Value) (qP114:Nat→List Value) (w:World) (r:(List TDisk)) (h:M13 a0 a1 A114=some r) (F:List Nat) (hA1:StbF (fun w=>At w u1 1 (a1.map B)) w F) (hc0:Cls w F [tQt gP114 qP114 A114] w):zu Tryz.prog 13 [VP gP114 a0,u1] F w fun u m=>∃ Q114,u=.tuple #[]∧m=[qS gP114 Q114 r []]:=by
 rw [M13] at h
 refine body (n:=51) Tryz.func13 rfl rfl rfl hc0 (W.seqJ (fun gs D=>∃ gl1 gq2,gs=[(0,VP gP114 a0)]∧D=Cls w F [tQt gP114 gq2 gl1]∧qlH a0 gl1=some r) ?_ ?_)
 ·refine sr (L.r 1 rfl ?_)
  obtain ⟨th6,eth6,h⟩:=qc h
  refine L.to (D:=Cls w F (tQR gP114 a0 qP114 th6 A114)) (fun _ hw=>hw.aO 0 rfl eth6) (L.y rfl (Y.apNil rfl eth6) (L.y rfl (Y.fieldP vR rfl) (L.y rfl (Y.loadP (i:=0) qm8 rfl rfl rfl) (L.y rfl (Y.lenM (g:=Twrite.row) (l:=th6.late_) Tryz.underlying112 rfl (fun w hw=>As.at_ (hw.get (i:=3) rfl))) (L.r 1 rfl (ln (W.block (W.loopJ (fun m gs D=>∃ gx3 gl4,gs=[(0,VP gP114 a0),(1,u1),(9,(gv (qP114 a0.toNat) 2)),(10,.int .i64 (th6.late_.length:Int)),(11,.int .i64 gx3)]∧D=Cls w F [tQN gP114 qP114 A114 a0,qij gP114 a0 qP114 th6,tQx qP114 a0 th6,.sl (tQi qP114 a0) 9 1 (gl4.map SR),qcA qP114 a0 th6]∧qe8 th6 a1 A114 a0 m gx3 gl4=some r) ⟨0,th6.safe_,rfl,rfl,h⟩ ⟨rfl,rfl,rfl,rfl,rfl,trivial⟩ (sI [4,0,3,1,2]) ?_))))))))
  rintro m _ _ ⟨gx3,gl4,rfl,rfl,h⟩
  rcases m with _ | m
  ·rw [qe8] at h;cases h
  rw [qe8] at h
  generalize hg1:qe8 th6 a1 A114 a0 m=go1 at h
  rw [qkg] at h
  refine sr (L.ite h rfl (Y.lss rfl rfl) (fun c7 h=>?_) (fun c7 h=>?_))
  ·refine ln (W.seq (W.condT rfl (W.skip (E.thenN (W.seq (W.block (sr (L.r 1 rfl (L.m (V:=fun _=>el (gv (qP114 a0.toNat) 2) (gx3.toNat*2)) h rfl (Y.indexM (g:=Twrite.row) (l:=th6.late_) Tryz.underlying112 qky rfl rfl (fun w hw=>As.at_ (hw.get (i:=2) rfl))) (fun x8 ex8 h=>(L.y rfl (Y.loadEN (r:=[.int .i64 x8.at_,st x8.text_]) qoz qky rfl (fun w hw=>As.at_ (hw.get (i:=2) rfl)) (qf ex8) rfl) (L.alloc rfl qnN ?_))))))))))))
   intro b9
   refine L.r 1 rfl (L.sv (i:=0) (vs:=[.int .i64 x8.at_,st x8.text_]) qky rfl rfl rfl rfl rfl nb (nsr (L.r 2 rfl (L.y rfl (Y.lenM (g:=B) (l:=a1) Tryz.underlying110 rfl (fun w' hw=>hA1.cls0 hw)) (L.ite h rfl (Y.lss rfl rfl) (fun c10 h=>?_) (fun c10 h=>?_))))))
   ·refine L.r 3 rfl (L.take rfl (L.m (V:=fun _=>el u1 (zG gx3)) h rfl (Y.indexM (g:=B) (l:=a1) Tryz.underlying110 sz4 rfl rfl (fun w' hw=>hA1.cls0 hw)) (fun x11 ex11 h=>(L.take rfl (L.iteB h rfl (Y.loadE1 (u:=.bool x11) ag4 rfl (fun w' hw=>hA1.cls0 hw) (qf ex11)) (fun c12 h=>?_) (fun c12 h=>?_))))))
    ·refine L.r 1 rfl (ln (W.condT rfl (W.drawn2 (k:=10) (stC [[9]] [Cls w F [.obj b9 [.int .i64 x8.at_,st x8.text_] 116,tQN gP114 qP114 A114 a0,qij gP114 a0 qP114 th6,tQx qP114 a0 th6,.sl (tQi qP114 a0) 9 1 (gl4.map SR),qcA qP114 a0 th6]] (Cls w F [.obj b9 [.int .i64 x8.at_,st x8.text_] 116,tQN gP114 qP114 A114 a0,qij gP114 a0 qP114 th6,tQx qP114 a0 th6,qcA qP114 a0 th6])) rfl mixed (fun _ hw=>hw.drew) (Sc.now (by kernel_rfl) hI) (V2.zz [] (Zc.on' (Zc.fin hI) (sI [0,1,2,3,5])) (fun hz16=>(V2.r [0] (by kernel_rfl) rfl (V2.apNil (i:=1) (Nx2.of [] (by kernel_rfl) rfl hz16) rfl rfl rfl eth6 (V2.q 2 [] hz16 rfl rfl (Y.fieldP xr rfl) (V2.q 3 [] hz16 rfl rfl (Y.loadP (i:=2) kT rfl rfl rfl) (V2.q 4 [] hz16 rfl rfl (Y.fieldP qlf rfl) (V2.q 5 [] hz16 rfl rfl (Y.loadP (i:=0) ag3 rfl rfl rfl) (V2.q 6 [] hz16 rfl rfl (Y.fieldP qle rfl) (V2.q 7 [] hz16 rfl rfl (Y.loadP (i:=0) ag9 rfl rfl rfl) ?_)))))))))))))
     refine V2.zz [9] (Zc.at1 hI) (fun hz17=>(V2.m (i:=8) (V':=fun _=>el (tQi qP114 a0) (x8.at_.toNat*1)) h (Nx2.of [9] (by kernel_rfl) rfl hz17) rfl rfl rfl (Y.indexM (g:=SR) (l:=gl4) Tryz.underlying111 sz9 rfl rfl (fun w hw=>As.at_ (hw.get (i:=4) rfl))) (fun x18 ex18 h=>(V2.eff (i:=9) (by kernel_rfl) rfl (L.storeSlM (q:=4) (row:=SR) (vs:=[st x8.text_]) (j:=0) (u1:=x8.text_) h sz9 rfl rfl rfl rfl rfl (qT rfl za) rfl ex18 rfl rfl ?_)))))
     intro l19 el19 h
     exact L.nil (E.toV2 (stC [] [] (Cls w F [.obj b9 [.int .i64 x8.at_,st x8.text_] 116,tQN gP114 qP114 A114 a0,qij gP114 a0 qP114 th6,tQx qP114 a0 th6,qcA qP114 a0 th6])) 9 (by kernel_rfl) (Sc.past rfl (Sc.stayD hI)) (Sc.atD (sI [0,1,2,3,5])) (V2.done (by kernel_rfl) (E.blockN (E.thenN (W.region (L.m (V:=fun x20=>.int .i64 x20) h rfl (Y.addM rfl rfl) (fun x20 ex20 h=>(L.r 1 rfl (L.nil (E.aJ ⟨x20,l19,rfl,rfl,by rw [hg1];exact h⟩ (sI [1,2,3,4,5])))))))))))
    exact L.r 1 rfl (ln (W.condF rfl (W.skip (E.blockN (E.thenN (W.region (L.m (V:=fun x21=>.int .i64 x21) h rfl (Y.addM rfl rfl) (fun x21 ex21 h=>(L.r 1 rfl (L.nil (E.aJ ⟨x21,gl4,rfl,rfl,by rw [hg1];exact h⟩ (sI [1,2,3,4,5]))))))))))))
   exact L.r 6 rfl (ln (W.condF rfl (W.skip (E.blockN (E.thenN (W.region (L.m (V:=fun x22=>.int .i64 x22) h rfl (Y.addM rfl rfl) (fun x22 ex22 h=>(L.r 1 rfl (L.nil (E.aJ ⟨x22,gl4,rfl,rfl,by rw [hg1];exact h⟩ (sI [1,2,3,4,5]))))))))))))
  refine ln (W.seq (W.condF rfl (W.exit (E.thenX (E.KLX (E.blockX ?_))))))
  obtain ⟨l23,el23,h⟩:=qc h
  refine E.aC (row:=TDisk.rowA) (sub:=TDisk.subA) (e:=114) (g:=gP114) (gh:=qP114) (vs':=[(tQi qP114 a0),(tQh qP114 a0),(gv (qP114 a0.toNat) 2)]) (m':=[]) [1,3,4,2,0] el23 rfl ?_
  intro q24
  exact E.to (D:=Cls w F [tQt gP114 q24 l23]) hI (E.jJ ⟨l23,q24,rfl,rfl,h⟩ hI)
 rintro _ _ ⟨gl1,gq2,rfl,rfl,h⟩
 rw [qlH] at h
 refine W.seq ?_
 obtain ⟨th1,eth1,h⟩:=qc h
 refine W.to (D:=Cls w F (tQR gP114 a0 gq2 th1 gl1)) (fun _ hw=>hw.aO 0 rfl eth1) (W.drawn2 (k:=9) (stC [[8]] [Cls w F (tQR gP114 a0 gq2 th1 gl1)] (Cls w F [qij gP114 a0 gq2 th1,.sl (tQi gq2 a0) 9 1 (th1.safe_.map SR),tQx gq2 a0 th1,tQN gP114 gq2 gl1 a0])) rfl mixed (fun _ hw=>hw.drew) (Sc.now (by kernel_rfl) hI) (V2.zz [] (Zc.on' (Zc.fin hI) (sI [0,1,3,4])) (fun hz3=>(V2.r [0] (by kernel_rfl) rfl (V2.apNil (i:=1) (Nx2.of [] (by kernel_rfl) rfl hz3) rfl rfl rfl eth1 (V2.q 2 [] hz3 rfl rfl (Y.fieldP vS rfl) (V2.q 3 [] hz3 rfl rfl (Y.loadP (i:=0) kT rfl rfl rfl) (V2.r [4] (by kernel_rfl) rfl (V2.apNil (i:=5) (Nx2.of [] (by kernel_rfl) rfl hz3) rfl rfl rfl eth1 (V2.q 6 [] hz3 rfl rfl (Y.fieldP xr rfl) (V2.q 7 [] hz3 rfl rfl (Y.loadP (i:=0) kT rfl rfl rfl) (V2.eff (i:=8) (by kernel_rfl) rfl (L.copyMD (i:=2) (g:=SR) (l:=th1.seen_) (s:=th1.safe_) rfl Tryz.underlying111 eL9 rfl rfl rfl (fun w hw=>As.at_ (hw.get (i:=1) rfl)) (qp _) (fun _=>(L.nil ?_)))))))))))))))
 refine E.toV2 (stC [] [] (Cls w F [qij gP114 a0 gq2 th1,.sl (tQi gq2 a0) 9 1 (th1.safe_.map SR),tQx gq2 a0 th1,tQN gP114 gq2 gl1 a0])) 8 (by kernel_rfl) (Sc.past rfl (Sc.stayD hI)) (Sc.atD (sI [0,1,3,4])) (V2.done (by kernel_rfl) (E.thenN (W.region (L.r 2 rfl (L.y rfl (Y.apNil rfl eth1) (L.y rfl (Y.fieldP vR rfl) (L.sv (i:=0) (vs:=[tQm]) qkz rfl rfl rfl rfl rfl nb (L.y rfl (Y.apNil rfl eth1) (L.y rfl (Y.fieldP kA rfl) (L.sv (i:=0) (vs:=[.int .i64 (-1)]) sz3 rfl rfl rfl rfl rfl nb (L.nil (E.nilSl 116 2 ?_))))))))))))
 obtain ⟨l4,el4,h⟩:=qc h
 refine E.aC (row:=TDisk.rowA) (sub:=TDisk.subA) (e:=114) (g:=gP114) (gh:=gq2) (vs':=[(tQi gq2 a0),(tQh gq2 a0),(tQm)]) (m':=[tQx gq2 a0 th1]) [1,2,3,0,5,4] el4 rfl ?_
 intro q5
 refine E.to (D:=Cls w F [tQt gP114 q5 l4,tQx gq2 a0 th1]) hI (E.end0 rfl (fun w1 hw=>?_))
 cases h
 exact ⟨_,_,rfl,⟨_,rfl,rfl⟩,hw.s [0]⟩
set_option maxRecDepth 100000 in
set_option maxHeartbeats 8000000 in
theorem W15 (a0:Int) (A69:(List TStore)) (gP69:Nat→Nat) (gP73:Nat→Nat) (gP152:Nat→Nat) (qP69:Nat→List Value) (w:World) (r:(List (List UInt8))) (h:M15 a0 A69=some r) (F:List Nat) (hc0:Cls w F [tQH gP69 gP73 gP152 qP69 A69] w):zu Tryz.prog 15 [VP gP69 a0] F w fun u m=>u=.agg (r.map SR).flatten.toArray∧m=[tQH gP69 gP73 gP152 qP69 A69]:=by
 rw [M15] at h
 refine body (n:=25) Tryz.func15 rfl rfl rfl hc0 ?_
 obtain ⟨th1,eth1,h⟩:=qc h
 refine W.to (D:=Cls w F (vy gP69 a0 gP152 th1 qP69 gP73 A69)) (fun _ hw=>hw.aO 0 rfl eth1) (sr (L.alloc rfl qoM ?_))
 intro b2
 refine L.to (D:=Cls w F [.obj b2 ((tQab.map SR).flatten) 59,tQa gP69 a0 gP152 th1 qP69,ka qP69 a0 th1 gP73,jh qP69 a0 th1 gP73,tQj th1,tQe qP69 a0 th1,tQu gP69 gP73 gP152 qP69 A69 a0]) (fun _ hw=>by first | exact hw | simpa [I,B,SR] using hw) (nsr (L.alloc rfl qoM ?_))
 intro b3
 refine L.to (D:=Cls w F [.obj b3 ((tQab.map SR).flatten) 59,.obj b2 ((tQab.map SR).flatten) 59,tQa gP69 a0 gP152 th1 qP69,ka qP69 a0 th1 gP73,jh qP69 a0 th1 gP73,tQj th1,tQe qP69 a0 th1,tQu gP69 gP73 gP152 qP69 A69 a0]) (fun _ hw=>by first | exact hw | simpa [I,B,SR] using hw) (ln (W.seqJ (fun gs D=>∃ gl1,gs=[(2,pt b2 0),(3,pt b3 0)]∧D=Cls w F (tQu gP69 gP73 gP152 qP69 A69 a0::.obj b3 ((gl1.map SR).flatten) 59::.obj b2 (((List.replicate 20 ([]:(List UInt8))).map SR).flatten) 59::tQZ gP69 a0 gP152 th1 qP69 gP73)∧qlE gl1=some r) ?_ ?_))
 ·refine sr (L.r 1 rfl (L.y rfl (Y.apNil rfl eth1) (L.y rfl (Y.fieldP kI rfl) ?_)))
  obtain ⟨_,en8,h⟩:=qc h
  obtain ⟨_,en8⟩:=qd en8
  obtain ⟨_,en9,h⟩:=qc h
  obtain ⟨_,en9⟩:=qd en9
  refine L.y rfl (Y.loadGA (q:=2) (si:=5) (ps:=6) (X:=(zr qh (jD qP69 a0) th1.items_).flatten) qo1 qoS rfl rfl rfl (by simp [zl,en8]) (zrN (nn:=20) (k:=1) (fun _ _=>rfl) en9)) (L.r 1 rfl (ln (W.block (W.loopJ (fun m gs D=>∃ gx2 gl3,gs=[(2,pt b2 0),(3,pt b3 0),(9,.agg (zr qh (jD qP69 a0) th1.items_).flatten.toArray),(10,.int .i64 gx2)]∧D=Cls w F (tQu gP69 gP73 gP152 qP69 A69 a0::.obj b3 ((gl3.map SR).flatten) 59::.obj b2 (((List.replicate 20 ([]:(List UInt8))).map SR).flatten) 59::tQZ gP69 a0 gP152 th1 qP69 gP73)∧qe4 th1 m gx2 gl3=some r) ⟨0,tQab,rfl,rfl,h⟩ ⟨rfl,rfl,rfl,rfl,trivial⟩ (sI [7,0,1,2,5,6,3,4]) ?_))))
  rintro m _ _ ⟨gx2,gl3,rfl,rfl,h⟩
  rcases m with _ | m
  ·rw [qe4] at h;cases h
  rw [qe4] at h
  generalize hg1:qe4 th1 m=go1 at h
  rw [qkd] at h
  refine sr (L.ite h rfl (Y.lss rfl rfl) (fun c10 h=>?_) (fun c10 h=>?_))
  ·refine ln (W.seq (W.condT rfl (W.skip (E.thenN (W.seq (W.block (sr (L.r 1 rfl ?_))))))))
   obtain ⟨x11,ex11,h⟩:=qc h
   refine L.y rfl (Y.idxZr1 (lb:=th1.items_) (vs:=(jD qP69 a0)) Tryz.underlying66 qnB qfi rfl rfl ex11) (L.r 2 rfl (nr (L.r 3 rfl (L.y rfl (Y.lenM (g:=TVersion.row) (l:=x11) Tryz.underlying65 rfl (fun w hw=>As.atZ (sds:=yu) (vs:=(jD qP69 a0)) (j:=0) (c:=1) (hw.get (i:=5) rfl) (fun _ _=>rfl) (qg ex11) rfl)) (L.m (V:=fun x12=>.int .i64 x12) h rfl (Y.subM rfl rfl) (fun x12 ex12 h=>(L.m (V:=fun _=>el (gv ((jD qP69 a0) gx2.toNat) 0) (x12.toNat*2)) h rfl (Y.indexM (g:=TVersion.row) (l:=x11) Tryz.underlying65 wL rfl rfl (fun w hw=>As.atZ (sds:=yu) (vs:=(jD qP69 a0)) (j:=0) (c:=1) (hw.get (i:=5) rfl) (fun _ _=>rfl) (qg ex11) rfl)) (fun x13 ex13 h=>(L.y rfl (Y.fieldE qjR rfl) (L.y rfl (Y.loadE (u:=st x13.Text) ag9 rfl (fun w hw=>As.atZ (sds:=yu) (vs:=(jD qP69 a0)) (j:=0) (c:=1) (hw.get (i:=5) rfl) (fun _ _=>rfl) (qg ex11) rfl) (qf ex13) rfl) (L.m (V:=fun _=>pt b3 (0+gx2.toNat*1)) h rfl (Y.indexAM (l:=gl3) Tryz.underlying59 sz9 rfl rfl) (fun x14 ex14 h=>(L.storeArM (q:=1) (row:=SR) (vs:=[st x13.Text]) (j:=0) (u1:=x13.Text) h sz9 rfl rfl rfl rfl rfl (qT rfl za) rfl (fun _=>rfl) (qg ex14) rfl rfl ?_)))))))))))))
   intro l15 el15 h
   exact L.nil (E.blockN (E.thenN (W.region (L.m (V:=fun x16=>.int .i64 x16) h rfl (Y.addM rfl rfl) (fun x16 ex16 h=>(L.r 1 rfl (L.nil (E.aJ ⟨x16,l15,rfl,rfl,by rw [hg1];exact h⟩ hI))))))))
  exact ln (W.seq (W.condF rfl (W.exit (E.thenX (E.KLX (E.blockX (E.jJ ⟨gl3,rfl,rfl,h⟩ hI)))))))
 rintro _ _ ⟨gl1,rfl,rfl,h⟩
 rw [qlE] at h
 refine sr ?_
 obtain ⟨_,en4,h⟩:=qc h
 obtain ⟨_,en4⟩:=qd en4
 refine L.y rfl (Y.loadArAll (q:=1) (row:=SR) (k:=1) qm7 qmk rfl rfl (fun _=>rfl) (by rw [en4])) ?_
 obtain ⟨_,en5,h⟩:=qc h
 obtain ⟨_,en5⟩:=qd en5
 obtain ⟨_,en6,h⟩:=qc h
 obtain ⟨_,en6⟩:=qd en6
 refine L.storeArW (i:=2) (row:=SR) (k:=1) en5 en6 rfl (fun _=>rfl) (qp _) qmk rfl rfl rfl (ln (W.ret (E.to (D:=Cls w F [tQH gP69 gP73 gP152 qP69 A69,.obj b3 ((gl1.map SR).flatten) 59,.obj b2 ((gl1.map SR).flatten) 59]) (fun _ hw=>hw.aS [3,6,7,4,5,0,1,2] eth1 rfl) ?_)))
 obtain ⟨_,en7,h⟩:=qc h
 obtain ⟨_,en7⟩:=qd en7
 refine E.retR1 rfl (Rv.cellAr (i:=2) (row:=SR) (k:=1) qm7 qmk rfl rfl (fun _=>rfl) (by rw [en7])) (fun w1 hw=>?_)
 cases h
 exact ⟨_,_,rfl,⟨rfl,rfl⟩,hw.s [0]⟩
set_option maxRecDepth 100000 in
set_option maxHeartbeats 8000000 in
theorem W4 (A69:(List TStore)) (A73:(List Ttx)) (A114:(List TDisk)) (A152:(List TLog)) (gP69:Nat→Nat) (gP73:Nat→Nat) (gP114:Nat→Nat) (gP152:Nat→Nat) (qP69:Nat→List Value) (qP73:Nat→List Value) (qP114:Nat→List Value) (qP152:Nat→List Value) (w:World) (r:((List TStore)×(List Ttx)×(List TDisk)×(List TLog)×Bool)) (h:M4 A69 A73 A114 A152=some r) (F:List Nat) (hc0:Cls w F (qas gP69 gP73 gP152 qP69 A69 qP73 A73 gP114 qP114 A114 qP152 A152) w):zu Tryz.prog 4 [] F w fun u m=>∃ G69 G73 G114 G152 Q69 Q73 Q114 Q152,Gr gP69 A69.length G69 r.1.length∧Gr gP73 A73.length G73 r.2.1.length∧Gr gP114 A114.length G114 r.2.2.1.length∧Gr gP152 A152.length G152 r.2.2.2.1.length∧u=.bool r.2.2.2.2∧m=[zg G69 G73 G152 Q69 r.1 [],zE G73 Q73 r.2.1 [],qS G114 Q114 r.2.2.1 [],qY G114 G152 Q152 r.2.2.2.1 []]:=by
 rw [M4] at h
 obtain ⟨g69,hg69⟩:∃ g,g=gP69:=⟨_,rfl⟩
 have hGr69:Gr g69 A69.length gP69 A69.length:=hg69 ▸ Gr.refl _ _
 obtain ⟨g73,hg73⟩:∃ g,g=gP73:=⟨_,rfl⟩
 have hGr73:Gr g73 A73.length gP73 A73.length:=hg73 ▸ Gr.refl _ _
 obtain ⟨g114,hg114⟩:∃ g,g=gP114:=⟨_,rfl⟩
 have hGr114:Gr g114 A114.length gP114 A114.length:=hg114 ▸ Gr.refl _ _
 obtain ⟨g152,hg152⟩:∃ g,g=gP152:=⟨_,rfl⟩
 have hGr152:Gr g152 A152.length gP152 A152.length:=hg152 ▸ Gr.refl _ _
 refine body (n:=54) Tryz.func4 rfl rfl rfl hc0 (sr (L.r 1 rfl (ln (W.seqJ (fun gs D=>∃ gx1 gx2 gb3 gP69 gl5 gq6,∃ gu7:Unit,∃ gP114 gl9 gq10,∃ gu11:Unit,∃ gP152 gl13 gq14,∃ gu15:Unit,gs=[(1,VP gP114 gx1),(2,VP gP69 gx2),(3,.bool gb3)]∧D=Cls w F (qas gP69 gP73 gP152 gq6 gl5 qP73 A73 gP114 gq10 gl9 gq14 gl13)∧Gr g69 A69.length gP69 gl5.length∧Gr g114 A114.length gP114 gl9.length∧Gr g152 A152.length gP152 gl13.length∧qnD A73 gx1 gx2 gb3 gl5 gl9 gl13=some r) ?_ ?_))))
 ·refine W.region (L.to (D:=qcy w F gP69 gP73 gP152 qP69 A69 gP114 qP114 A114 qP152 A152 qP73 A73) (sI [0,2,3,1]) ?_)
  obtain ⟨l68,l69,l70,x71,x72,b73,e74,h⟩:=qjZ h
  refine L.doesP (A:=(tQH gP69 gP73 gP152 qP69 A69::zd gP114 qP114 A114 gP152 qP152 A152)) (M:=[tQC gP73 qP73 A73]) rfl (by kernel_rfl) rfl (fun w' hw=>W5 40 A69 A114 A152 gP69 gP73 gP114 gP152 qP69 qP114 qP152 w' _ e74 _ hw.lend) ?_
  rintro _ _ ⟨gP69,gP114,gP152,q75,q76,q77,hg78,hg79,hg80,rfl,rfl⟩
  replace hGr69:=hGr69.trans hg78
  replace hGr114:=hGr114.trans hg79
  replace hGr152:=hGr152.trans hg80
  refine L.to (D:=qcy w F gP69 gP73 gP152 q75 l68 gP114 q76 l69 q77 l70 qP73 A73) hI (L.r 3 rfl (L.iteB h rfl (Y.extract rfl rfl) (fun c81 h=>?_) (fun c81 h=>?_)))
  ·exact L.r 3 rfl (L.nil (E.jJ ⟨x71,x72,true,gP69,l68,q75,(),gP114,l69,q76,(),gP152,l70,q77,(),rfl,rfl,hGr69,hGr114,hGr152,h⟩ (sI [0,3,1,2])))
  exact L.r 3 rfl (L.nil (E.jJ ⟨x71,x72,false,gP69,l68,q75,(),gP114,l69,q76,(),gP152,l70,q77,(),rfl,rfl,hGr69,hGr114,hGr152,h⟩ (sI [0,3,1,2])))
 rintro _ _ ⟨gx1,gx2,gb3,gP69,gl5,gq6,gu7,gP114,gl9,gq10,gu11,gP152,gl13,gq14,gu15,rfl,rfl,hGr69,hGr114,hGr152,h⟩
 rw [qnD] at h
 rcases gb3 with _ | _
 ·replace h:=zn h
  refine W.seq (sr (L.r 1 rfl (L.y rfl (Y.not rfl) (L.r 15 rfl (ln (W.condT rfl (sr (L.r 1 rfl (ln ?_)))))))))
  refine W.ret (E.thenR (E.ret1 rfl rfl (fun w1 hw=>?_)))
  cases h
  exact ⟨_,_,rfl,⟨_,_,_,_,_,_,_,_,(hg69 ▸ hGr69),(hg73 ▸ hGr73),(hg114 ▸ hGr114),(hg152 ▸ hGr152),rfl,rfl⟩,hw⟩
 replace h:=zm h
 refine W.seq (sr (L.cutJ 12 (fun gs D=>∃ gb16 gl17 gq18,∃ gu19:Unit,∃ gP73 gl21 gq22,∃ gu23:Unit,gs=[(1,VP gP114 gx1),(2,VP gP69 gx2),(21,.bool gb16)]∧D=Cls w F (qas gP69 gP73 gP152 gq18 gl17 gq22 gl21 gP114 gq10 gl9 gq14 gl13)∧Gr g69 A69.length gP69 gl17.length∧Gr g73 A73.length gP73 gl21.length∧qnd gl9 gl13 gx2 gx1 gb16 gl17 gl21=some r) ?_ ?_))
 ·refine L.r 1 rfl (L.y rfl (Y.not rfl) (L.r 2 rfl (L.take rfl ?_)))
  obtain ⟨l53,l54,x55,e56,h⟩:=zt h
  refine L.doesP (A:=(z8 gP69 gP73 gP152 gq6 gl5 qP73 A73)) (M:=(zd gP114 gq10 gl9 gP152 gq14 gl13)) rfl (by kernel_rfl) rfl (fun w' hw=>W6 gx2 1 gl5 A73 gP69 gP73 gP152 gq6 qP73 w' _ e56 _ hw.lend) ?_
  rintro _ _ ⟨gP73,q57,q58,hg59,rfl,rfl⟩
  replace hGr73:=hGr73.trans hg59
  obtain ⟨_,c60,h⟩:=qc h
  replace hGr69:=hGr69.len (qz c60)
  refine L.to (D:=Cls w F (qas gP69 gP73 gP152 q57 l53 q58 l54 gP114 gq10 gl9 gq14 gl13)) hI (L.take rfl (L.ite h rfl (Y.neq rfl rfl) (fun c61 h=>?_) (fun c61 h=>?_)))
  ·exact L.r 6 rfl (L.nil (E.jJ ⟨true,l53,q57,(),gP73,l54,q58,(),rfl,rfl,hGr69,hGr73,h⟩ hI))
  refine L.r 3 rfl (L.take rfl ?_)
  obtain ⟨l62,x63,e64,h⟩:=qt h
  refine L.doesP (A:=(z8 gP69 gP73 gP152 q57 l53 q58 l54)) (M:=(zd gP114 gq10 gl9 gP152 gq14 gl13)) rfl (by kernel_rfl) rfl (fun w' hw=>W9 gx2 1 4 ([120]) l53 l54 gP69 gP73 gP152 q57 q58 w' _ e64 _ hw.lend) ?_
  rintro _ _ ⟨q65,rfl,rfl⟩
  obtain ⟨_,c66,h⟩:=qc h
  replace hGr73:=hGr73.len (qz c66)
  refine L.to (D:=Cls w F (qas gP69 gP73 gP152 q57 l53 q65 l62 gP114 gq10 gl9 gq14 gl13)) hI (L.take rfl (L.ite h rfl (Y.neq rfl rfl) (fun c67 h=>?_) (fun c67 h=>?_)))
  ·exact L.r 1 rfl (L.nil (E.jJ ⟨true,l53,q57,(),gP73,l62,q65,(),rfl,rfl,hGr69,hGr73,h⟩ hI))
  exact L.r 1 rfl (L.nil (E.jJ ⟨false,l53,q57,(),gP73,l62,q65,(),rfl,rfl,hGr69,hGr73,h⟩ hI))
 rintro _ _ ⟨gb16,gl17,gq18,gu19,gP73,gl21,gq22,gu23,rfl,rfl,hGr69,hGr73,h⟩
 rw [qnd] at h
 rcases gb16 with _ | _
 ·replace h:=zn h
  refine L.r 2 rfl (L.take rfl ?_)
  obtain ⟨l1,l2,l3,l4,x5,e6,h⟩:=vY h
  refine L.doesP (A:=(qas gP69 gP73 gP152 gq18 gl17 gq22 gl21 gP114 gq10 gl9 gq14 gl13)) (M:=[]) rfl (by kernel_rfl) rfl (fun w' hw=>W10 gx2 1 gl17 gl21 gl9 gl13 gP69 gP73 gP114 gP152 gq18 gq22 gq10 gq14 w' _ e6 _ hw.lend) ?_
  rintro _ _ ⟨q7,q8,q9,q10,rfl,rfl⟩
  obtain ⟨_,c11,h⟩:=qc h
  replace hGr69:=hGr69.len (qz c11)
  obtain ⟨_,c12,h⟩:=qc h
  replace hGr73:=hGr73.len (qz c12)
  obtain ⟨_,c13,h⟩:=qc h
  replace hGr114:=hGr114.len (qz c13)
  obtain ⟨_,c14,h⟩:=qc h
  replace hGr152:=hGr152.len (qz c14)
  refine L.to (D:=Cls w F (qas gP69 gP73 gP152 q7 l1 q8 l2 gP114 q9 l3 q10 l4)) hI (L.take rfl (L.ite h rfl (Y.neq rfl rfl) (fun c15 h=>?_) (fun c15 h=>?_)))
  ·refine L.r 1 rfl (ln (W.condT rfl (sr (L.r 1 rfl (ln (W.ret (E.thenR (E.ret1 rfl rfl (fun w1 hw=>?_)))))))))
   cases h
   exact ⟨_,_,rfl,⟨_,_,_,_,_,_,_,_,(hg69 ▸ hGr69),(hg73 ▸ hGr73),(hg114 ▸ hGr114),(hg152 ▸ hGr152),rfl,rfl⟩,hw⟩
  refine L.r 1 rfl (ln (W.condF rfl (W.skip (E.thenN (W.seq (sr (L.r 1 rfl ?_)))))))
  obtain ⟨l16,l17,x18,e19,h⟩:=zt h
  refine L.doesP (A:=(z8 gP69 gP73 gP152 q7 l1 q8 l2)) (M:=(zd gP114 q9 l3 gP152 q10 l4)) rfl (by kernel_rfl) rfl (fun w' hw=>W6 gx2 2 l1 l2 gP69 gP73 gP152 q7 q8 w' _ e19 _ hw.lend) ?_
  rintro _ _ ⟨gP73,q20,q21,hg22,rfl,rfl⟩
  replace hGr73:=hGr73.trans hg22
  obtain ⟨_,c23,h⟩:=qc h
  replace hGr69:=hGr69.len (qz c23)
  refine L.to (D:=Cls w F (qas gP69 gP73 gP152 q20 l16 q21 l17 gP114 q9 l3 q10 l4)) hI (L.ite h rfl (Y.neq rfl rfl) (fun c24 h=>?_) (fun c24 h=>?_))
  ·refine L.r 5 rfl (ln (W.condT rfl (sr (L.r 1 rfl (ln (W.ret (E.thenR (E.ret1 rfl rfl (fun w1 hw=>?_)))))))))
   cases h
   exact ⟨_,_,rfl,⟨_,_,_,_,_,_,_,_,(hg69 ▸ hGr69),(hg73 ▸ hGr73),(hg114 ▸ hGr114),(hg152 ▸ hGr152),rfl,rfl⟩,hw⟩
  refine L.r 2 rfl (L.take rfl ?_)
  obtain ⟨l25,x26,e27,h⟩:=qt h
  refine L.doesP (A:=(z8 gP69 gP73 gP152 q20 l16 q21 l17)) (M:=(zd gP114 q9 l3 gP152 q10 l4)) rfl (by kernel_rfl) rfl (fun w' hw=>W9 gx2 2 5 ([121]) l16 l17 gP69 gP73 gP152 q20 q21 w' _ e27 _ hw.lend) ?_
  rintro _ _ ⟨q28,rfl,rfl⟩
  obtain ⟨_,c29,h⟩:=qc h
  replace hGr73:=hGr73.len (qz c29)
  refine L.to (D:=Cls w F (qas gP69 gP73 gP152 q20 l16 q28 l25 gP114 q9 l3 q10 l4)) hI (L.take rfl (L.ite h rfl (Y.neq rfl rfl) (fun c30 h=>?_) (fun c30 h=>?_)))
  ·refine L.r 1 rfl (ln (W.condT rfl (sr (L.r 1 rfl (ln (W.ret (E.thenR (E.ret1 rfl rfl (fun w1 hw=>?_)))))))))
   cases h
   exact ⟨_,_,rfl,⟨_,_,_,_,_,_,_,_,(hg69 ▸ hGr69),(hg73 ▸ hGr73),(hg114 ▸ hGr114),(hg152 ▸ hGr152),rfl,rfl⟩,hw⟩
  refine L.r 1 rfl (ln (W.condF rfl (W.skip (E.thenN (sr (L.r 1 rfl (L.to (D:=Cls w F [tQt gP114 q9 l3,tQH gP69 gP73 gP152 q20 l16,tQC gP73 q28 l25,tQw gP114 gP152 q10 l4]) (sI [2,0,1,3]) ?_)))))))
  obtain ⟨l31,e32,h⟩:=qc h
  refine L.doesP (A:=[tQt gP114 q9 l3]) (M:=[tQH gP69 gP73 gP152 q20 l16,tQC gP73 q28 l25,tQw gP114 gP152 q10 l4]) rfl (by kernel_rfl) rfl (fun w' hw=>W13 gx1 [] l3 gP114 (tQm) q9 w' _ e32 _ StbF.nil hw.lend) ?_
  rintro _ _ ⟨q33,rfl,rfl⟩
  obtain ⟨_,c34,h⟩:=qc h
  replace hGr114:=hGr114.len (qz c34)
  refine L.to (D:=Cls w F [tQt gP114 q33 l31,tQH gP69 gP73 gP152 q20 l16,tQC gP73 q28 l25,tQw gP114 gP152 q10 l4]) hI (nsr (L.r 1 rfl (L.to (D:=qcy w F gP69 gP73 gP152 q20 l16 gP114 q33 l31 q10 l4 q28 l25) (sI [1,0,3,2]) ?_)))
  obtain ⟨l35,l36,l37,x38,x39,e40,h⟩:=vY h
  refine L.doesP (A:=(tQH gP69 gP73 gP152 q20 l16::zd gP114 q33 l31 gP152 q10 l4)) (M:=[tQC gP73 q28 l25]) rfl (by kernel_rfl) rfl (fun w' hw=>W14 gx1 l16 l31 l4 gP69 gP73 gP114 gP152 q20 q33 q10 w' _ e40 _ hw.lend) ?_
  rintro _ _ ⟨gP69,gP152,q41,q42,q43,hg44,hg45,rfl,rfl⟩
  replace hGr69:=hGr69.trans hg44
  replace hGr152:=hGr152.trans hg45
  obtain ⟨_,c46,h⟩:=qc h
  replace hGr114:=hGr114.len (qz c46)
  refine L.to (D:=qcy w F gP69 gP73 gP152 q41 l35 gP114 q42 l36 q43 l37 q28 l25) hI (L.r 5 rfl (nsr (L.cutJ 6 (fun gs D=>∃ gb24,gs=[(2,VP gP69 x38),(47,.bool gb24)]∧D=qcy w F gP69 gP73 gP152 q41 l35 gP114 q42 l36 q43 l37 q28 l25∧qnc x38 l35 l25 l36 l37 gb24=some r) ?_ ?_)))
  ·refine L.r 1 rfl (L.ite h rfl (Y.eql rfl rfl) (fun c51 h=>?_) (fun c51 h=>?_))
   ·refine L.r 2 rfl (L.take rfl (L.ite h rfl (Y.neqAN Tryz.underlying25 rfl rfl) (fun c52 h=>?_) (fun c52 h=>?_)))
    ·exact L.r 1 rfl (L.nil (E.jJ ⟨true,rfl,rfl,h⟩ hI))
    exact L.r 1 rfl (L.nil (E.jJ ⟨false,rfl,rfl,h⟩ hI))
   exact L.r 4 rfl (L.nil (E.jJ ⟨false,rfl,rfl,h⟩ hI))
  rintro _ _ ⟨gb24,rfl,rfl,h⟩
  rw [qnc] at h
  rcases gb24 with _ | _
  ·replace h:=zn h
   refine L.r 7 rfl (ln (W.ret (E.ret1 rfl rfl (fun w1 hw=>?_))))
   cases h
   exact ⟨_,_,rfl,⟨_,_,_,_,_,_,_,_,(hg69 ▸ hGr69),(hg73 ▸ hGr73),(hg114 ▸ hGr114),(hg152 ▸ hGr152),rfl,rfl⟩,hw.s [0,3,1,2]⟩
  replace h:=zm h
  refine L.r 2 rfl (L.take rfl ?_)
  obtain ⟨x47,e48,h⟩:=qc h
  refine L.doesP (A:=[tQH gP69 gP73 gP152 q41 l35]) (M:=[tQt gP114 q42 l36,tQw gP114 gP152 q43 l37,tQC gP73 q28 l25]) rfl (by kernel_rfl) rfl (fun w' hw=>W15 x38 l35 gP69 gP73 gP152 q41 w' _ e48 _ hw.lend) ?_
  rintro _ _ ⟨rfl,rfl⟩
  refine L.to (D:=qcy w F gP69 gP73 gP152 q41 l35 gP114 q42 l36 q43 l37 q28 l25) hI (L.take rfl (L.y rfl (Y.build (cells:=(([[],[],[],[],[120],[],[],[],[],[],[],[],[],[],[],[],[],[],[],[]]:List (List UInt8)).map SR).flatten.toArray) rfl (by kernel_rfl)) (L.take rfl ?_)))
  obtain ⟨_,en49,h⟩:=qc h
  obtain ⟨_,en49⟩:=qd en49
  obtain ⟨_,en50,h⟩:=qc h
  obtain ⟨_,en50⟩:=qd en50
  refine L.y rfl (Y.eqlAr (row:=SR) qoo qm7 Tryz.underlying59 qol qom qn6 qmI en49 en50 rfl rfl) (L.r 2 rfl (ln (W.ret (E.ret1 rfl rfl (fun w1 hw=>?_)))))
  cases h
  exact ⟨_,_,rfl,⟨_,_,_,_,_,_,_,_,(hg69 ▸ hGr69),(hg73 ▸ hGr73),(hg114 ▸ hGr114),(hg152 ▸ hGr152),rfl,rfl⟩,hw.s [0,3,1,2]⟩
 replace h:=zm h
 refine L.r 5 rfl (ln (W.condT rfl (sr (L.r 1 rfl (ln (W.ret (E.thenR (E.ret1 rfl rfl (fun w1 hw=>?_)))))))))
 cases h
 exact ⟨_,_,rfl,⟨_,_,_,_,_,_,_,_,(hg69 ▸ hGr69),(hg73 ▸ hGr73),(hg114 ▸ hGr114),(hg152 ▸ hGr152),rfl,rfl⟩,hw⟩
set_option maxRecDepth 100000 in
set_option maxHeartbeats 8000000 in
theorem W20 (a0:(List TVersion)) (a1:Int) (u0:Value) (w:World) (r:((List UInt8)×Bool)) (h:M20 a0 a1=some r) (hA0:At w u0 2 (qfg a0)):Does Tryz.prog 20 [u0,.int .i64 a1] w fun u m=>u=.tuple #[st r.1,.bool r.2]∧m=[]:=by
 rw [M20] at h
 refine body (n:=29) Tryz.func20 rfl rfl rfl (Cls.refl w) (sr (L.r 2 rfl (nsr (L.r 1 rfl (ln (W.seqJ (fun gs D=>∃ gx1,gs=[(0,u0),(6,.int .i64 gx1)]∧D=Cls w [] []∧qhD a0 gx1=some r) ?_ ?_))))))
 ·refine sr (L.r 1 rfl (L.y rfl (Y.lenM (g:=TVersion.row) (l:=a0) Tryz.underlying65 rfl (fun w' hw=>hA0.cls0 hw)) (L.r 1 rfl (ln (W.block (W.loopJ (fun m gs D=>∃ gx2 gx3,gs=[(0,u0),(1,.int .i64 a1),(6,.int .i64 gx2),(9,u0),(10,.int .i64 (a0.length:Int)),(11,.int .i64 gx3)]∧D=Cls w [] []∧qaf a0 a1 m gx2 gx3=some r) ⟨(-1),0,rfl,rfl,h⟩ ⟨rfl,rfl,rfl,rfl,rfl,rfl,trivial⟩ hI ?_))))))
  rintro m _ _ ⟨gx2,gx3,rfl,rfl,h⟩
  rcases m with _ | m
  ·rw [qaf] at h;cases h
  rw [qaf] at h
  generalize hg1:qaf a0 a1 m=go1 at h
  rw [qdU] at h
  refine sr (L.ite h rfl (Y.lss rfl rfl) (fun c3 h=>?_) (fun c3 h=>?_))
  ·refine ln (W.seq (W.condT rfl (W.skip (E.thenN (W.seq (W.block (sr (L.r 1 rfl (L.m (V:=fun _=>wJ u0 gx3) h rfl (Y.indexM (g:=TVersion.row) (l:=a0) Tryz.underlying65 wL rfl rfl (fun w' hw=>hA0.cls0 hw)) (fun x4 ex4 h=>(L.y rfl (Y.loadEN (r:=(qjD x4)) ql2 wL rfl (fun w' hw=>hA0.cls0 hw) (qf ex4) rfl) (L.alloc rfl qnJ ?_))))))))))))
   intro b5
   refine L.r 1 rfl (L.sv (i:=0) (vs:=(qjD x4)) wL rfl rfl rfl rfl rfl nb (nsr (L.y rfl (Y.fieldP xN rfl) (L.y rfl (Y.loadP (i:=0) ag3 rfl rfl rfl) (L.r 1 rfl (L.ite h rfl (Y.leq rfl rfl) (fun c6 h=>?_) (fun c6 h=>?_)))))))
   ·exact ln (W.condT rfl (W.region (L.r 2 rfl (L.nil (E.blockN (E.thenN (W.region (L.m (V:=fun x7=>.int .i64 x7) h rfl (Y.addM rfl rfl) (fun x7 ex7 h=>(L.r 1 rfl (L.nil (E.aJ ⟨gx3,x7,rfl,rfl,by rw [hg1];exact h⟩ (sI [])))))))))))))
   exact ln (W.condF rfl (W.skip (E.blockN (E.thenN (W.region (L.m (V:=fun x8=>.int .i64 x8) h rfl (Y.addM rfl rfl) (fun x8 ex8 h=>(L.r 1 rfl (L.nil (E.aJ ⟨gx2,x8,rfl,rfl,by rw [hg1];exact h⟩ (sI [])))))))))))
  exact ln (W.seq (W.condF rfl (W.exit (E.thenX (E.KLX (E.blockX (E.jJ ⟨gx2,rfl,rfl,h⟩ hI)))))))
 rintro _ _ ⟨gx1,rfl,rfl,h⟩
 rw [qhD] at h
 refine W.seq (sr (L.r 1 rfl (L.ite h rfl (Y.lss rfl rfl) (fun c1 h=>?_) (fun c1 h=>?_))))
 ·refine ln (W.condT rfl (sr (L.r 2 rfl (ln (W.ret (E.thenR (E.ret2 rfl rfl rfl (fun w1 hw=>?_))))))))
  cases h
  exact ⟨_,_,rfl,⟨rfl,rfl⟩,hw⟩
 refine ln (W.condF rfl (W.skip (E.thenN (sr (L.r 2 rfl (L.m (V:=fun _=>wJ u0 gx1) h rfl (Y.indexM (g:=TVersion.row) (l:=a0) Tryz.underlying65 wL rfl rfl (fun w' hw=>hA0.cls0 hw)) (fun x2 ex2 h=>(L.y rfl (Y.fieldE qjR rfl) (L.y rfl (Y.loadE (u:=st x2.Text) ag9 rfl (fun w' hw=>hA0.cls0 hw) (qf ex2) rfl) (L.r 2 rfl (ln ?_)))))))))))
 refine W.ret (E.ret2 rfl rfl rfl (fun w1 hw=>?_))
 cases h
 exact ⟨_,_,rfl,⟨rfl,rfl⟩,hw⟩
set_option maxRecDepth 100000 in
set_option maxHeartbeats 8000000 in
theorem W7 (a0:Int) (a1:Int) (a2:Int) (A69:(List TStore)) (A73:(List Ttx)) (gP69:Nat→Nat) (gP73:Nat→Nat) (gP152:Nat→Nat) (qP69:Nat→List Value) (qP73:Nat→List Value) (w:World) (r:((List Ttx)×(List UInt8)×Int)) (h:M7 a0 a1 a2 A69 A73=some r) (F:List Nat) (hc0:Cls w F (z8 gP69 gP73 gP152 qP69 A69 qP73 A73) w):zu Tryz.prog 7 [VP gP69 a0,.int .i64 a1,.int .i64 a2] F w fun u m=>∃ Q73,u=.tuple #[st r.2.1,.int .i64 r.2.2]∧m=[tQH gP69 gP73 gP152 qP69 A69,zE gP73 Q73 r.1 []]:=by
 rw [M7] at h
 refine body (n:=66) Tryz.func7 rfl rfl rfl hc0 ?_
 obtain ⟨th1,eth1,h⟩:=qc h
 refine W.to (D:=Cls w F (tQS gP69 a0 gP152 th1 qP69 gP73 A69 qP73 A73)) (fun _ hw=>hw.aO 0 rfl eth1) (sr (L.r 2 rfl (nsr (L.r 3 rfl (L.to (D:=Cls w F (z8 gP69 gP73 gP152 qP69 A69 qP73 A73)) (fun _ hw=>hw.aS [0,1,2,3,4,5,6] eth1 rfl) ?_)))))
 obtain ⟨x2,x3,e4,h⟩:=qt h
 refine L.doesP (A:=(z8 gP69 gP73 gP152 qP69 A69 qP73 A73)) (M:=[]) rfl (by kernel_rfl) rfl (fun w' hw=>W18 a0 a1 a2 A69 A73 gP69 gP73 gP152 qP69 qP73 w' _ e4 _ hw.lend) ?_
 rintro _ _ ⟨rfl,rfl⟩
 refine L.to (D:=Cls w F (z8 gP69 gP73 gP152 qP69 A69 qP73 A73)) hI ?_
 obtain ⟨th5,eth5,h⟩:=qc h
 refine L.to (D:=Cls w F (tQS gP69 a0 gP152 th5 qP69 gP73 A69 qP73 A73)) (fun _ hw=>hw.aO 0 rfl eth5) (L.r 5 rfl (ln (W.seq (sr (L.r 1 rfl (L.ite h rfl (Y.neq rfl rfl) (fun c6 h=>?_) (fun c6 h=>?_)))))))
 ·refine ln (W.condT rfl (sr (L.r 3 rfl (ln (W.ret (E.thenR (E.to (D:=Cls w F (z8 gP69 gP73 gP152 qP69 A69 qP73 A73)) (fun _ hw=>hw.aS [0,1,2,3,4,5,6] eth5 rfl) (E.ret2 rfl rfl rfl (fun w1 hw=>?_)))))))))
  cases h
  exact ⟨_,_,rfl,⟨_,rfl,rfl⟩,hw⟩
 refine ln (W.condF rfl (W.skip (E.thenN (W.seq (sr (L.r 1 rfl (L.to (D:=Cls w F (z8 gP69 gP73 gP152 qP69 A69 qP73 A73)) (fun _ hw=>hw.aS [0,1,2,3,4,5,6] eth5 rfl) ?_)))))))
 obtain ⟨th7,eth7,h⟩:=qc h
 refine L.to (D:=Cls w F [tQb gP73 x2 th7 qP73,xW qP73 x2 th7,xX qP73 x2 th7,tQz th7,tQL gP73 qP73 A73 x2,tQH gP69 gP73 gP152 qP69 A69]) (fun _ hw=>hw.aO 1 rfl eth7) (L.y rfl (Y.apNil rfl eth7) (L.y rfl (Y.fieldP xw rfl) (L.y rfl (Y.loadG (q:=0) (si:=4) (ps:=4) (j:=0) (X:=[(tQh qP73 x2)]) jy rfl rfl rfl rfl rfl rfl) (L.r 1 rfl ?_))))
 obtain ⟨b8,e9,h⟩:=qc h
 refine L.y rfl (Y.does qlk rfl (fun w' hw=>(W19 th7.writes_ a2 (tQh qP73 x2) w' _ e9 (As.at_ (hw.get (i:=2) rfl))).mono (fun _ _ h=>h.1))) ?_
 rcases b8 with _ | _
 ·replace h:=zn h
  refine ln (W.condF rfl (W.skip (E.thenN (W.seqJ (fun gs D=>∃ gl1 gq2,gs=[(0,VP gP69 a0),(2,.int .i64 a2),(8,VP gP73 x2)]∧D=Cls w F [tQC gP73 gq2 gl1,tQH gP69 gP73 gP152 qP69 A69]∧ql4 A69 a0 x2 a2 gl1=some r) ?_ ?_))))
  ·refine sr (L.r 1 rfl (L.y rfl (Y.apNil rfl eth7) (L.y rfl (Y.fieldP wU rfl) (L.y rfl (Y.loadG (q:=0) (si:=3) (ps:=3) (j:=0) (X:=[(tQi qP73 x2)]) jy rfl rfl rfl rfl rfl rfl) (L.r 1 rfl ?_)))))
   obtain ⟨b17,e18,h⟩:=qc h
   refine L.y rfl (Y.does qlk rfl (fun w' hw=>(W19 th7.reads_ a2 (tQi qP73 x2) w' _ e18 (As.at_ (hw.get (i:=1) rfl))).mono (fun _ _ h=>h.1))) ?_
   rcases b17 with _ | _
   ·replace h:=zn h
    refine L.y rfl (Y.not rfl) (ln (W.condT rfl (W.region (L.r 2 rfl (L.y rfl (Y.apNil rfl eth7) (L.y rfl (Y.fieldP wU rfl) (L.y rfl (Y.loadG (q:=0) (si:=3) (ps:=3) (j:=0) (X:=[(tQi qP73 x2)]) jy rfl rfl rfl rfl rfl rfl) (L.r 1 rfl (L.litOne rfl Tryz.underlying52 eL3 rfl rfl ?_)))))))))
    intro b19
    refine L.appM (i:=2) (g:=I) (l:=th7.reads_) (more:=[a2]) h rfl Tryz.underlying52 eL3 rfl rfl rfl (fun w hw=>As.at_ (hw.get (i:=0) rfl)) (qR _) rfl ?_
    intro v20 l21 el21 h
    refine L.y rfl (Y.apNil rfl eth7) (L.y rfl (Y.fieldP wU rfl) (L.storeGV (q:=2) (si:=3) (ps:=3) (j:=0) (X:=[(tQi qP73 x2)]) vA rfl rfl rfl (fun _ hw=>(As.at_ (hw.get (i:=0) rfl)).one) rfl rfl rfl rfl (L.nil ?_)))
    obtain ⟨l23,el23,h⟩:=qc h
    refine E.aC (row:=Ttx.rowA) (sub:=Ttx.subA) (e:=73) (g:=gP73) (gh:=qP73) (vs':=([v20,(tQh qP73 x2)])) (m':=[.sl (sv b19 1) 3 1 (([a2]).map I),tQH gP69 gP73 gP152 qP69 A69]) [2,0,3,4,5,1,6] el23 rfl ?_
    intro q22
    exact E.to (D:=Cls w F [tQC gP73 q22 l23,.sl (sv b19 1) 3 1 (([a2]).map I),tQH gP69 gP73 gP152 qP69 A69]) hI (E.jJ ⟨l23,q22,rfl,rfl,h⟩ (sI [0,2]))
   replace h:=zm h
   exact L.y rfl (Y.not rfl) (ln (W.condF rfl (W.skip (E.to (D:=Cls w F [tQC gP73 qP73 A73,tQH gP69 gP73 gP152 qP69 A69]) (fun _ hw=>hw.aS [0,1,2,3,4,5] eth7 rfl) (E.jJ ⟨A73,qP73,rfl,rfl,h⟩ hI)))))
  rintro _ _ ⟨gl1,gq2,rfl,rfl,h⟩
  rw [ql4] at h
  refine W.seq ?_
  obtain ⟨th10,eth10,h⟩:=qc h
  refine W.to (D:=Cls w F (tQS gP69 a0 gP152 th10 qP69 gP73 A69 gq2 gl1)) (fun _ hw=>hw.aO 1 rfl eth10) ?_
  obtain ⟨th11,eth11,h⟩:=qc h
  refine W.to (D:=Cls w F (tQb gP73 x2 th11 gq2::xW gq2 x2 th11::xX gq2 x2 th11::tQz th11::tQL gP73 gq2 gl1 x2::vy gP69 a0 gP152 th10 qP69 gP73 A69)) (fun _ hw=>hw.aO 6 rfl eth11) (W.quietC mixed (by kernel_rfl) (fun _ hw=>hw.drew) (fun hC=>(U.r 2 rfl (U.y rfl (Y.apNil rfl eth10) (U.y rfl (Y.fieldP kI rfl) (U.m (V:=fun _=>pt (gP69 a0.toNat) (6+a2.toNat*1)) h rfl (Y.indexAS (l:=th10.items_) Tryz.underlying66 qfi rfl rfl) (fun x12 ex12 h=>?_)))))))
  obtain ⟨_,en13,h⟩:=qc h
  obtain ⟨_,en13⟩:=qd en13
  refine U.y rfl (Y.loadZg (si:=5) (ps:=6) (q:=5) (row:=qh) (vs:=(jD qP69 a0)) (j:=0) (pv:=gv ((jD qP69 a0) a2.toNat) 0) qnB rfl rfl rfl rfl (by simp [zl,en13]) (fun _ _=>rfl) (qg ex12) rfl) (U.r 1 rfl (U.y rfl (Y.apNil rfl eth11) (U.y rfl (Y.fieldP qc2 rfl) (U.y rfl (Y.loadG (q:=0) (si:=1) (ps:=1) (j:=0) (X:=[.int .i64 th11.from_]) ag3 rfl rfl rfl rfl rfl rfl) ?_))))
  obtain ⟨s14,b15,e16,h⟩:=qt h
  refine U.y rfl (Y.does (by kernel_rfl) rfl (fun w' hw=>(W20 x12 th11.from_ (gv ((jD qP69 a0) a2.toNat) 0) w' _ e16 (As.atZ (sds:=yu) (vs:=(jD qP69 a0)) (j:=0) (c:=1) (hw.get (i:=9) rfl) (fun _ _=>rfl) (qg ex12) rfl)).mono (fun _ _ h=>h.1))) (U.r 5 rfl (U.nil (E.thenN (sr (L.r 3 rfl (ln (W.ret (E.to (D:=Cls w F (tQC gP73 gq2 gl1::vy gP69 a0 gP152 th10 qP69 gP73 A69)) (fun _ hw=>hw.aS [0,1,2,3,4,5,6,7,8,9,10] eth11 rfl) (E.to (D:=Cls w F (z8 gP69 gP73 gP152 qP69 A69 gq2 gl1)) (fun _ hw=>hw.aS [1,2,3,4,5,6,0] eth10 rfl) (E.ret2 rfl rfl rfl (fun w1 hw=>?_)))))))))))
  cases h
  exact ⟨_,_,rfl,⟨_,rfl,rfl⟩,hw⟩
 replace h:=zm h
 refine ln (W.condT rfl (sr (L.r 2 rfl (L.y rfl (Y.apNil rfl eth7) (L.y rfl (Y.fieldP qa5 rfl) (L.m (V:=fun _=>pt (gP73 x2.toNat) (5+a2.toNat*1)) h rfl (Y.indexAS (l:=th7.texts_) Tryz.underlying59 sz9 rfl rfl) (fun x24 ex24 h=>(L.y rfl (Y.loadZg (si:=5) (ps:=5) (q:=0) (row:=(fzr SR)) (vs:=(fun _=>[])) (j:=0) (pv:=st x24) ag9 rfl rfl rfl rfl rfl (fun _ _=>rfl) (qg ex24) rfl) (L.r 2 rfl (ln (W.ret ?_)))))))))))
 refine E.thenR (E.to (D:=Cls w F [tQC gP73 qP73 A73,tQH gP69 gP73 gP152 qP69 A69]) (fun _ hw=>hw.aS [0,1,2,3,4,5] eth7 rfl) (E.ret2 rfl rfl rfl (fun w1 hw=>?_)))
 cases h
 exact ⟨_,_,rfl,⟨_,rfl,rfl⟩,hw.s [1,0]⟩
set_option maxRecDepth 100000 in
set_option maxHeartbeats 8000000 in
theorem W56 [Dr] (a0:Int) (w:World) (r:Bool) (h:M56 a0=some r):Does Tryz.prog 56 [.int .i64 a0] w fun u m=>u=.bool r∧m=[]:=by
 rw [M56] at h
 refine body (n:=6) Tryz.func56 rfl rfl rfl (Cls.refl w) (sr (L.r 1 rfl (nsr (L.r 2 rfl (L.y rfl (Y.neq rfl rfl) (L.r 1 rfl (ln (W.ret ?_))))))))
 refine E.ret1 rfl rfl (fun w1 hw=>?_)
 cases h
 exact ⟨_,_,rfl,⟨rfl,rfl⟩,hw⟩
set_option maxRecDepth 100000 in
set_option maxHeartbeats 8000000 in
theorem W27 [Dr] (a0:Int) (a1:Int) (w:World) (r:Int) (h:M27 a0 a1=some r):Does Tryz.prog 27 [.int .i64 a0,.int .i64 a1] w fun u m=>u=.int .i64 r∧m=[]:=by
 rw [M27] at h
 refine body (n:=20) Tryz.func27 rfl rfl rfl (Cls.refl w) (sr (L.r 1 rfl (ln (W.seqJ (fun gs D=>∃ gb1,gs=[(0,.int .i64 a0),(1,.int .i64 a1),(5,.bool gb1)]∧D=Cls w [] []∧qhu a1 a0 gb1=some r) ?_ ?_))))
 ·refine W.region (L.r 1 rfl ?_)
  obtain ⟨b7,e8,h⟩:=qc h
  refine L.y rfl (Y.does (by kernel_rfl) rfl (fun w' hw=>(W56 a0 w' _ e8).mono (fun _ _ h=>h.1))) ?_
  rcases b7 with _ | _
  ·replace h:=zn h
   exact L.r 1 rfl (L.nil (E.jJ ⟨false,rfl,rfl,h⟩ hI))
  replace h:=zm h
  exact L.r 1 rfl (L.nil (E.jJ ⟨true,rfl,rfl,h⟩ hI))
 rintro _ _ ⟨gb1,rfl,rfl,h⟩
 rw [qhu] at h
 rcases gb1 with _ | _
 ·replace h:=zn h
  refine sr (L.r 1 rfl ?_)
  obtain ⟨b1,e2,h⟩:=qc h
  refine L.y rfl (Y.does (by kernel_rfl) rfl (fun w' hw=>(W56 a1 w' _ e2).mono (fun _ _ h=>h.1))) ?_
  rcases b1 with _ | _
  ·replace h:=zn h
   refine L.r 1 rfl (ln (W.seq (sr (L.r 1 rfl (ln (W.condF rfl (W.skip (E.thenN (W.seq (W.seq ?_))))))))))
   refine W.region (L.r 1 rfl (ln (W.condF rfl (W.skip (E.thenN (W.seq (sr (L.r 2 rfl (L.ite h rfl (Y.lss rfl rfl) (fun c3 h=>?_) (fun c3 h=>?_))))))))))
   ·refine ln (W.condT rfl (sr (L.r 1 rfl (ln (W.ret (E.thenR (E.ret1 rfl rfl (fun w1 hw=>?_))))))))
    cases h
    exact ⟨_,_,rfl,⟨rfl,rfl⟩,hw⟩
   refine ln (W.condF rfl (W.skip (E.thenN (W.seq (sr (L.r 2 rfl (L.ite h rfl (Y.gtr rfl rfl) (fun c4 h=>?_) (fun c4 h=>?_))))))))
   ·refine ln (W.condT rfl (sr (L.r 1 rfl (ln (W.ret (E.thenR (E.ret1 rfl rfl (fun w1 hw=>?_))))))))
    cases h
    exact ⟨_,_,rfl,⟨rfl,rfl⟩,hw⟩
   refine ln (W.condF rfl (W.skip (E.thenN (sr (L.r 1 rfl (ln (W.ret (E.ret1 rfl rfl (fun w1 hw=>?_)))))))))
   cases h
   exact ⟨_,_,rfl,⟨rfl,rfl⟩,hw⟩
  replace h:=zm h
  refine L.r 1 rfl (ln (W.seq (sr (L.r 1 rfl (ln (W.condF rfl (W.skip (E.thenN (W.seq (W.seq ?_))))))))))
  refine W.region (L.r 1 rfl (ln (W.condT rfl (sr (L.r 1 rfl (ln (W.ret (E.thenR (E.ret1 rfl rfl (fun w1 hw=>?_))))))))))
  cases h
  exact ⟨_,_,rfl,⟨rfl,rfl⟩,hw⟩
 replace h:=zm h
 refine sr (L.r 1 rfl ?_)
 obtain ⟨b5,e6,h⟩:=qc h
 refine L.y rfl (Y.does (by kernel_rfl) rfl (fun w' hw=>(W56 a1 w' _ e6).mono (fun _ _ h=>h.1))) ?_
 rcases b5 with _ | _
 ·replace h:=zn h
  refine L.r 1 rfl (ln (W.seq (sr (L.r 1 rfl (ln (W.condT rfl (W.seq (sr (L.r 1 rfl ?_)))))))))
  refine ln (W.condF rfl (W.skip (E.thenN (sr (L.r 1 rfl (ln (W.ret (E.thenR (E.ret1 rfl rfl (fun w1 hw=>?_))))))))))
  cases h
  exact ⟨_,_,rfl,⟨rfl,rfl⟩,hw⟩
 replace h:=zm h
 refine L.r 1 rfl (ln (W.seq (sr (L.r 1 rfl (ln (W.condT rfl (W.seq (sr (L.r 1 rfl ?_)))))))))
 refine ln (W.condT rfl (sr (L.r 1 rfl (ln (W.ret (E.thenR (E.thenR (E.ret1 rfl rfl (fun w1 hw=>?_)))))))))
 cases h
 exact ⟨_,_,rfl,⟨rfl,rfl⟩,hw⟩
set_option maxRecDepth 100000 in
set_option maxHeartbeats 8000000 in
theorem W26 [Dr] (a0:TTale) (a1:TTale) (u0_0:Value) (u1_1:Value) (w:World) (r:Int) (h:qhY a0 a1=some r) (hA0_0:At w u0_0 2 (a0.Reads.map TGot.row)) (hA1_1:At w u1_1 2 (a1.Reads.map TGot.row)):Does Tryz.prog 26 [.agg #[.int .i64 a0.Tx,u0_0],.agg #[.int .i64 a1.Tx,u1_1]] w fun u m=>u=.int .i64 r∧m=[]:=by
 rw [qhY] at h
 refine body (n:=10) Tryz.func26 rfl rfl rfl (Cls.refl w) (sr (L.box rfl rfl ?_))
 intro b1
 refine L.box rfl rfl ?_
 intro b2
 refine L.r 1 rfl (nsr (L.y rfl (Y.fieldP xv rfl) (L.y rfl (Y.loadP (i:=1) ag3 rfl rfl rfl) (L.y rfl (Y.fieldP xv rfl) (L.y rfl (Y.loadP (i:=0) ag3 rfl rfl rfl) ?_)))))
 obtain ⟨x3,e4,h⟩:=qc h
 refine L.y rfl (Y.does qnx rfl (fun w' hw=>(W27 a0.Tx a1.Tx w' _ e4).mono (fun _ _ h=>h.1))) (L.r 1 rfl (ln (W.ret (E.ret1 rfl rfl (fun w1 hw=>?_)))))
 cases h
 exact ⟨_,_,rfl,⟨rfl,rfl⟩,hw.s []⟩
set_option maxRecDepth 100000 in
set_option maxHeartbeats 8000000 in
theorem W28 (a0:TStory) (u0_0:Value) (q0_0:Nat→List Value) (u0_2:Value) (q0_2:Nat→List Value) (K:World→Prop) (w:World) (hK:StbF K w []) (r:Int) (h:M28 a0=some r) (hA0_0:Fz K [] u0_0 2 (zr TTale.rowv q0_0 a0.Tales)) (hD0_0:FzA K [] (zs TTale.sds q0_0 a0.Tales)) (hA0_2:Fz K [] u0_2 1 (zr qh q0_2 a0.Versions)) (hD0_2:FzA K [] (zs (qF 3 1 I) q0_2 a0.Versions)):Does Tryz.prog 28 [.agg #[u0_0,u0_2]] w fun u m=>u=.int .i64 r∧m=[]:=by
 rw [M28] at h
 refine body (n:=123) Tryz.func28 rfl rfl rfl (Cls.reflF w) (sr (L.box rfl rfl ?_))
 intro b1
 refine L.r 1 rfl (ln (W.seq (sr (L.y rfl (Y.fieldP xO rfl) (L.y rfl (Y.loadP (i:=0) qhX rfl rfl rfl) (L.y rfl (Y.lenMZ (row:=TTale.rowv) (vs:=q0_0) (l:=a0.Tales) Tryz.underlying46 rfl (fun w' hw=>(hA0_0.up.clsP hK hw rfl))) (L.ite h rfl (Y.gtr rfl rfl) (fun c2 h=>?_) (fun c2 h=>?_))))))))
 ·refine L.r 6 rfl (ln (W.condT rfl (sr (L.r 1 rfl (ln (W.ret (E.thenR (E.ret1 rfl rfl (fun w1 hw=>?_)))))))))
  cases h
  exact ⟨_,_,rfl,⟨rfl,rfl⟩,hw.s []⟩
 refine L.r 1 rfl (L.take rfl (L.y rfl (Y.fieldP kJ rfl) (L.take rfl (L.y rfl (Y.loadP (i:=0) qj1 rfl rfl rfl) (L.take rfl (L.y rfl (Y.lenMZ (row:=qh) (vs:=q0_2) (l:=a0.Versions) Tryz.underlying47 rfl (fun w' hw=>(hA0_2.up.clsP hK hw rfl))) (L.take rfl (L.ite h rfl (Y.gtr rfl rfl) (fun c3 h=>?_) (fun c3 h=>?_)))))))))
 ·refine L.r 1 rfl (ln (W.condT rfl (sr (L.r 1 rfl (ln (W.ret (E.thenR (E.ret1 rfl rfl (fun w1 hw=>?_)))))))))
  cases h
  exact ⟨_,_,rfl,⟨rfl,rfl⟩,hw.s []⟩
 refine L.r 1 rfl (ln (W.condF rfl (W.skip (E.thenN (W.seqJ (fun gs D=>gs=[(1,pt b1 0)]∧D=Cls w [] [qat b1 u0_0 u0_2,.os []]∧qjk a0=some r) ?_ ?_)))))
 ·refine sr (L.y rfl (Y.fieldP xO rfl) (L.y rfl (Y.loadP (i:=0) qhX rfl rfl rfl) (L.y rfl (Y.lenMZ (row:=TTale.rowv) (vs:=q0_0) (l:=a0.Tales) Tryz.underlying46 rfl (fun w' hw=>(hA0_0.up.clsP hK hw rfl))) (L.r 1 rfl (ln (W.block (W.loopJ (fun m gs D=>∃ gx6,gs=[(1,pt b1 0),(22,u0_0),(23,qfJ a0),(24,.int .i64 gx6)]∧D=Cls w [] [qat b1 u0_0 u0_2,.os []]∧wa a0 m gx6=some r) ⟨0,rfl,rfl,h⟩ ⟨rfl,rfl,rfl,rfl,trivial⟩ hI ?_)))))))
  rintro m _ _ ⟨gx6,rfl,rfl,h⟩
  rcases m with _ | m
  ·rw [wa] at h;cases h
  rw [wa] at h
  generalize hg4:wa a0 m=go4 at h
  rw [qdx] at h
  refine sr (L.ite h rfl (Y.lss rfl rfl) (fun c23 h=>?_) (fun c23 h=>?_))
  ·refine ln (W.seq (W.condT rfl (W.skip (E.thenN (W.seqJ (fun gs D=>gs=[(1,pt b1 0),(22,u0_0),(23,qfJ a0),(24,.int .i64 gx6)]∧D=Cls w [] [qat b1 u0_0 u0_2,.os []]∧qhr gx6 go4=some r) ?_ ?_)))))
   ·refine W.block (sr (L.r 1 rfl (L.m (V:=fun _=>wJ u0_0 gx6) h rfl (Y.indexMZ (row:=TTale.rowv) (vs:=q0_0) (l:=a0.Tales) Tryz.underlying46 qcB rfl rfl (fun w' hw=>(hA0_0.up.clsP hK hw rfl))) (fun x25 ex25 h=>(L.y rfl (Y.loadEN (r:=(qeq x25 q0_0 gx6)) ql1 qcB rfl (fun w' hw=>(hA0_0.up.clsP hK hw rfl)) (zH (vs:=q0_0) ex25) rfl) (L.alloc rfl qoK ?_))))))
    intro b26
    refine L.r 1 rfl (L.storeC (i:=0) qcB rfl rfl rfl rfl (fun w hw=>(qT rfl (qT (((FzA.at (sds:=TTale.sds) (vs:=q0_0) (j:=0) (nl:=1) hD0_0 (fun _ _=>rfl) ex25 rfl).up).clsP hK hw rfl).one za))) rfl nb (ln (W.seq (sr (L.y rfl (Y.fieldP xv rfl) (L.y rfl (Y.loadP (i:=0) ag3 rfl rfl rfl) (L.ite h rfl (Y.lss rfl rfl) (fun c27 h=>?_) (fun c27 h=>?_))))))))
    ·refine L.r 5 rfl (ln (W.condT rfl (sr (L.r 1 rfl (ln (W.ret (E.thenR (E.blockR (E.KSR (E.KLR ?_))))))))))
     refine E.blockR (E.KSR (E.ret1 rfl rfl (fun w1 hw=>?_)))
     cases h
     exact ⟨_,_,rfl,⟨rfl,rfl⟩,hw.s []⟩
    refine L.r 1 rfl (L.take rfl (L.y rfl (Y.fieldP xv rfl) (L.take rfl (L.y rfl (Y.loadP (i:=0) ag3 rfl rfl rfl) (L.take rfl (L.ite h rfl (Y.geq rfl rfl) (fun c28 h=>?_) (fun c28 h=>?_)))))))
    ·refine L.r 1 rfl (ln (W.condT rfl (sr (L.r 1 rfl (ln (W.ret (E.thenR (E.blockR (E.KSR (E.KLR ?_))))))))))
     refine E.blockR (E.KSR (E.ret1 rfl rfl (fun w1 hw=>?_)))
     cases h
     exact ⟨_,_,rfl,⟨rfl,rfl⟩,hw.s []⟩
    refine L.r 1 rfl (ln (W.condF rfl (W.skip (E.thenN (W.seqJ (fun gs D=>gs=[(1,pt b1 0),(4,pt b26 0),(22,u0_0),(23,qfJ a0),(24,.int .i64 gx6)]∧D=Cls w [] [.obj b26 (qeq x25 q0_0 gx6) 90,qat b1 u0_0 u0_2,.os []]∧qeU x25 a0 gx6 go4=some r) ?_ ?_)))))
    ·refine W.seq (W.quietC mixed (by kernel_rfl) (fun _ hw=>hw.drew) (fun hC=>(U.r 1 rfl (U.ite h rfl (Y.gtr rfl rfl) (fun c41 h=>?_) (fun c41 h=>?_)))))
     ·refine U.r 1 rfl (U.take rfl (U.y rfl (Y.fieldP xv rfl) (U.take rfl (U.y rfl (Y.loadP (i:=0) ag3 rfl rfl rfl) (U.take rfl (U.y rfl (Y.fieldP xO rfl) (U.take rfl (U.y rfl (Y.loadP (i:=1) qhX rfl rfl rfl) (U.r 1 rfl (U.take rfl (U.m (V:=fun x42=>.int .i64 x42) h rfl (Y.subM rfl rfl) (fun x42 ex42 h=>(U.take rfl (U.m (V:=fun _=>wJ u0_0 x42) h rfl (Y.indexMZ (row:=TTale.rowv) (vs:=q0_0) (l:=a0.Tales) Tryz.underlying46 qcB rfl rfl (fun w' hw=>(hA0_0.up.clsP hK hw rfl))) (fun x43 ex43 h=>?_)))))))))))))))
      refine U.take rfl (U.y rfl (Y.fieldE xv rfl) (U.take rfl (U.y rfl (Y.loadE (u:=.int .i64 x43.Tx) ag3 rfl (fun w' hw=>(hA0_0.up.clsP hK hw rfl)) (zH (vs:=q0_0) ex43) rfl) (U.take rfl (U.ite h rfl (Y.leq rfl rfl) (fun c44 h=>?_) (fun c44 h=>?_))))))
      ·refine U.r 1 rfl (U.nil (E.thenN (W.condT rfl (sr (L.r 1 rfl (ln (W.ret (E.KSR (E.blockR (E.KSR (E.KLR ?_)))))))))))
       refine E.blockR (E.KSR (E.ret1 rfl rfl (fun w1 hw=>?_)))
       cases h
       exact ⟨_,_,rfl,⟨rfl,rfl⟩,hw.s []⟩
      exact U.r 1 rfl (U.nil (E.thenN (W.condF rfl (W.skip (E.jJ ⟨rfl,rfl,h⟩ hI)))))
     exact U.r 12 rfl (U.nil (E.thenN (W.condF rfl (W.skip (E.jJ ⟨rfl,rfl,h⟩ hI)))))
    rintro _ _ ⟨rfl,rfl,h⟩
    rw [qeU] at h
    refine sr (L.y rfl (Y.fieldP qc0 rfl) (L.y rfl (Y.loadP (i:=0) qoy rfl rfl rfl) (L.y rfl (Y.lenM (g:=TGot.row) (l:=x25.Reads) Tryz.underlying88 rfl (fun w' hw=>(((FzA.at (sds:=TTale.sds) (vs:=q0_0) (j:=0) (nl:=1) hD0_0 (fun _ _=>rfl) ex25 rfl).up).clsP hK hw rfl))) (L.r 1 rfl (ln (W.block (W.loopJ (fun m gs D=>∃ gx7,gs=[(1,pt b1 0),(4,pt b26 0),(22,u0_0),(23,qfJ a0),(24,.int .i64 gx6),(52,tQi q0_0 gx6),(53,.int .i64 (x25.Reads.length:Int)),(54,.int .i64 gx7)]∧D=Cls w [] [.obj b26 (qeq x25 q0_0 gx6) 90,qat b1 u0_0 u0_2,.os []]∧y3 x25 a0 gx6 go4 m gx7=some r) ⟨0,rfl,rfl,h⟩ ⟨rfl,rfl,rfl,rfl,rfl,rfl,rfl,rfl,trivial⟩ hI ?_)))))))
    rintro m _ _ ⟨gx7,rfl,rfl,h⟩
    rcases m with _ | m
    ·rw [y3] at h;cases h
    rw [y3] at h
    generalize hg5:y3 x25 a0 gx6 go4 m=go5 at h
    rw [qdw] at h
    refine sr (L.ite h rfl (Y.lss rfl rfl) (fun c29 h=>?_) (fun c29 h=>?_))
    ·refine ln (W.seq (W.condT rfl (W.skip (E.thenN (W.seq (W.block (sr (L.m (V:=fun _=>el (tQi q0_0 gx6) (gx7.toNat*2)) h rfl (Y.indexM (g:=TGot.row) (l:=x25.Reads) Tryz.underlying88 qlU rfl rfl (fun w' hw=>(((FzA.at (sds:=TTale.sds) (vs:=q0_0) (j:=0) (nl:=1) hD0_0 (fun _ _=>rfl) ex25 rfl).up).clsP hK hw rfl))) (fun x30 ex30 h=>(L.y rfl (Y.loadEN (r:=(qid x30)) qo0 qlU rfl (fun w' hw=>(((FzA.at (sds:=TTale.sds) (vs:=q0_0) (j:=0) (nl:=1) hD0_0 (fun _ _=>rfl) ex25 rfl).up).clsP hK hw rfl)) (qf ex30) rfl) (L.alloc rfl qoJ ?_)))))))))))
     intro b31
     refine L.sv (i:=0) (vs:=(qid x30)) qlU rfl rfl rfl rfl rfl nb (ln (W.seq (W.quietC mixed (by kernel_rfl) (fun _ hw=>hw.drew) (fun hC=>(U.cutJ hC 11 (fun gs=>∃ gb8,gs=[(1,pt b1 0),(4,pt b26 0),(6,pt b31 0),(22,u0_0),(23,qfJ a0),(24,.int .i64 gx6),(52,tQi q0_0 gx6),(53,.int .i64 (x25.Reads.length:Int)),(54,.int .i64 gx7),(68,.bool gb8)]∧yb x30 x25 a0 gx7 go5 gb8=some r) ?_ ?_)))))
     ·refine U.y rfl (Y.fieldP qcZ rfl) (U.y rfl (Y.loadP (i:=0) ag3 rfl rfl rfl) (U.ite h rfl (Y.lss rfl rfl) (fun c39 h=>?_) (fun c39 h=>?_)))
      ·exact U.r 8 rfl (U.nil (E.joinU ⟨true,rfl,h⟩ ⟨rfl,rfl,rfl,rfl,rfl,rfl,rfl,rfl,rfl,rfl,trivial⟩))
      refine U.r 1 rfl (U.take rfl (U.y rfl (Y.fieldP qcZ rfl) (U.take rfl (U.y rfl (Y.loadP (i:=0) ag3 rfl rfl rfl) (U.take rfl (U.y rfl (Y.fieldP kJ rfl) (U.take rfl (U.y rfl (Y.loadP (i:=2) qj1 rfl rfl rfl) (U.take rfl (U.y rfl (Y.lenMZ (row:=qh) (vs:=q0_2) (l:=a0.Versions) Tryz.underlying47 rfl (fun w' hw=>(hA0_2.up.clsP hK hw rfl))) (U.take rfl (U.ite h rfl (Y.geq rfl rfl) (fun c40 h=>?_) (fun c40 h=>?_)))))))))))))
      ·exact U.r 1 rfl (U.nil (E.joinU ⟨true,rfl,h⟩ ⟨rfl,rfl,rfl,rfl,rfl,rfl,rfl,rfl,rfl,rfl,trivial⟩))
      exact U.r 1 rfl (U.nil (E.joinU ⟨false,rfl,h⟩ ⟨rfl,rfl,rfl,rfl,rfl,rfl,rfl,rfl,rfl,rfl,trivial⟩))
     rintro _ ⟨gb8,rfl,h⟩
     rw [yb] at h
     rcases gb8 with _ | _
     ·replace h:=zn h
      refine U.r 1 rfl (U.take rfl (U.y rfl (Y.fieldP qa4 rfl) (U.take rfl (U.y rfl (Y.loadP (i:=0) ag3 rfl rfl rfl) (U.take rfl (U.y rfl (Y.fieldP xv rfl) (U.take rfl (U.y rfl (Y.loadP (i:=1) ag3 rfl rfl rfl) (U.take rfl (U.ite h rfl (Y.eql rfl rfl) (fun c32 h=>?_) (fun c32 h=>?_)))))))))))
      ·refine U.r 18 rfl (U.nil (E.thenN (W.condT rfl (sr (L.r 1 rfl (ln (W.ret (E.blockR (E.thenR (E.KLR (E.blockR ?_)))))))))))
       refine E.blockR (E.KSR (E.KLR (E.blockR (E.KSR (E.ret1 rfl rfl (fun w1 hw=>?_))))))
       cases h
       exact ⟨_,_,rfl,⟨rfl,rfl⟩,hw.s []⟩
      refine U.r 2 rfl (U.take rfl (U.y rfl (Y.fieldP qa4 rfl) (U.take rfl (U.y rfl (Y.loadP (i:=0) ag3 rfl rfl rfl) (U.take rfl (U.ite h rfl (Y.neq rfl rfl) (fun c33 h=>?_) (fun c33 h=>?_)))))))
      ·refine U.r 1 rfl (U.take rfl (U.y rfl (Y.fieldP kJ rfl) (U.take rfl (U.y rfl (Y.loadP (i:=2) qj1 rfl rfl rfl) (U.take rfl (U.y rfl (Y.fieldP qcZ rfl) (U.take rfl (U.y rfl (Y.loadP (i:=0) ag3 rfl rfl rfl) (U.take rfl (U.m (V:=fun _=>el u0_2 (x30.Item.toNat*1)) h rfl (Y.indexMZ (row:=qh) (vs:=q0_2) (l:=a0.Versions) Tryz.underlying47 vA rfl rfl (fun w' hw=>(hA0_2.up.clsP hK hw rfl))) (fun x34 ex34 h=>(U.take rfl (U.y rfl (Y.loadE1 (u:=gv (q0_2 x30.Item.toNat) 0) jy rfl (fun w' hw=>(hA0_2.up.clsP hK hw rfl)) (zH (vs:=q0_2) ex34)) (U.take rfl ?_))))))))))))))
       refine U.y rfl (Y.fieldP qa4 rfl) (U.take rfl (U.y rfl (Y.loadP (i:=0) ag3 rfl rfl rfl) (U.take rfl ?_)))
       obtain ⟨b35,e36,h⟩:=qc h
       refine U.y rfl (Y.does qlk rfl (fun w' hw=>(W19 x34 x30.From (gv (q0_2 x30.Item.toNat) 0) w' _ e36 (((FzA.at (sds:=(qF 3 1 I)) (vs:=q0_2) (j:=0) (nl:=1) hD0_2 (fun _ _=>rfl) ex34 rfl).up).clsP hK hw rfl)).mono (fun _ _ h=>h.1))) ?_
       rcases b35 with _ | _
       ·replace h:=zn h
        refine U.take rfl (U.y rfl (Y.not rfl) (U.r 2 rfl (U.nil (E.thenN (W.condT rfl (sr (L.r 1 rfl (ln (W.ret (E.blockR (E.thenR ?_)))))))))))
        refine E.KLR (E.blockR (E.blockR (E.KSR (E.KLR (E.blockR (E.KSR (E.ret1 rfl rfl (fun w1 hw=>?_))))))))
        cases h
        exact ⟨_,_,rfl,⟨rfl,rfl⟩,hw.s []⟩
       replace h:=zm h
       exact U.take rfl (U.y rfl (Y.not rfl) (U.r 2 rfl (U.nil (E.thenN (W.condF rfl (W.skip (E.blockN (E.thenN (W.region (L.m (V:=fun x37=>.int .i64 x37) h rfl (Y.addM rfl rfl) (fun x37 ex37 h=>(L.r 1 rfl (L.nil (E.aJ ⟨x37,rfl,rfl,by rw [hg5];exact h⟩ (sI [1,2,3])))))))))))))))
      exact U.r 13 rfl (U.nil (E.thenN (W.condF rfl (W.skip (E.blockN (E.thenN (W.region (L.m (V:=fun x38=>.int .i64 x38) h rfl (Y.addM rfl rfl) (fun x38 ex38 h=>(L.r 1 rfl (L.nil (E.aJ ⟨x38,rfl,rfl,by rw [hg5];exact h⟩ (sI [1,2,3])))))))))))))
     replace h:=zm h
     refine U.r 24 rfl (U.nil (E.thenN (W.condT rfl (sr (L.r 1 rfl (ln (W.ret (E.blockR (E.thenR (E.KLR (E.blockR ?_)))))))))))
     refine E.blockR (E.KSR (E.KLR (E.blockR (E.KSR (E.ret1 rfl rfl (fun w1 hw=>?_))))))
     cases h
     exact ⟨_,_,rfl,⟨rfl,rfl⟩,hw.s []⟩
    exact ln (W.seq (W.condF rfl (W.exit (E.thenX (E.KLX (E.blockX (E.blockN (E.jJ ⟨rfl,rfl,h⟩ (sI [1,2])))))))))
   rintro _ _ ⟨rfl,rfl,h⟩
   rw [qhr] at h
   exact W.region (L.m (V:=fun x24=>.int .i64 x24) h rfl (Y.addM rfl rfl) (fun x24 ex24 h=>(L.r 1 rfl (L.nil (E.aJ ⟨x24,rfl,rfl,by rw [hg4];exact h⟩ hI)))))
  exact ln (W.seq (W.condF rfl (W.exit (E.thenX (E.KLX (E.blockX (E.jJ ⟨rfl,rfl,h⟩ hI)))))))
 rintro _ _ ⟨rfl,rfl,h⟩
 rw [qjk] at h
 refine W.seqJ (fun gs D=>gs=[]∧D=Cls w [] [.os []]∧qjj=some r) ?_ ?_
 ·refine sr (L.y rfl (Y.fieldP kJ rfl) (L.y rfl (Y.loadP (i:=0) qj1 rfl rfl rfl) (L.y rfl (Y.lenMZ (row:=qh) (vs:=q0_2) (l:=a0.Versions) Tryz.underlying47 rfl (fun w' hw=>(hA0_2.up.clsP hK hw rfl))) (L.r 1 rfl (ln (W.block (W.loopJ (fun m gs D=>∃ gx1,gs=[(1,pt b1 0),(96,u0_2),(97,qlM a0),(98,.int .i64 gx1)]∧D=Cls w [] [qat b1 u0_0 u0_2,.os []]∧wA a0 m gx1=some r) ⟨0,rfl,rfl,h⟩ ⟨rfl,rfl,rfl,rfl,trivial⟩ hI ?_)))))))
  rintro m _ _ ⟨gx1,rfl,rfl,h⟩
  rcases m with _ | m
  ·rw [wA] at h;cases h
  rw [wA] at h
  generalize hg1:wA a0 m=go1 at h
  rw [qdA] at h
  refine sr (L.ite h rfl (Y.lss rfl rfl) (fun c4 h=>?_) (fun c4 h=>?_))
  ·refine ln (W.seq (W.condT rfl (W.skip (E.thenN (W.seqJ (fun gs D=>gs=[(1,pt b1 0),(96,u0_2),(97,qlM a0),(98,.int .i64 gx1)]∧D=Cls w [] [qat b1 u0_0 u0_2,.os []]∧qht gx1 go1=some r) ?_ ?_)))))
   ·refine W.block (sr (L.m (V:=fun _=>el u0_2 (zG gx1)) h rfl (Y.indexMZ (row:=qh) (vs:=q0_2) (l:=a0.Versions) Tryz.underlying47 vA rfl rfl (fun w' hw=>(hA0_2.up.clsP hK hw rfl))) (fun x6 ex6 h=>(L.y rfl (Y.loadE1 (u:=tQi q0_2 gx1) jy rfl (fun w' hw=>(hA0_2.up.clsP hK hw rfl)) (zH (vs:=q0_2) ex6)) (L.r 1 rfl (nsr (L.r 1 rfl (L.y rfl (Y.lenM (g:=I) (l:=x6) Tryz.underlying52 rfl (fun w' hw=>(((FzA.at (sds:=(qF 3 1 I)) (vs:=q0_2) (j:=0) (nl:=1) hD0_2 (fun _ _=>rfl) ex6 rfl).up).clsP hK hw rfl))) (L.r 1 rfl (L.nil ?_))))))))))
    refine E.thenN (W.block (W.loopJ (fun m gs D=>∃ gx2,gs=[(1,pt b1 0),(8,tQi q0_2 gx1),(96,u0_2),(97,qlM a0),(98,.int .i64 gx1),(102,tQi q0_2 gx1),(103,.int .i64 (x6.length:Int)),(104,.int .i64 gx2)]∧D=Cls w [] [qat b1 u0_0 u0_2,.os []]∧wz x6 a0 gx1 go1 m gx2=some r) ⟨0,rfl,rfl,h⟩ ⟨rfl,rfl,rfl,rfl,rfl,rfl,rfl,rfl,trivial⟩ hI ?_))
    rintro m _ _ ⟨gx2,rfl,rfl,h⟩
    rcases m with _ | m
    ·rw [wz] at h;cases h
    rw [wz] at h
    generalize hg2:wz x6 a0 gx1 go1 m=go2 at h
    rw [qdz] at h
    refine sr (L.ite h rfl (Y.lss rfl rfl) (fun c7 h=>?_) (fun c7 h=>?_))
    ·refine ln (W.seq (W.condT rfl (W.skip (E.thenN (W.seq (W.block (sr (L.r 1 rfl (L.m (V:=fun _=>el (tQi q0_2 gx1) (zG gx2)) h rfl (Y.indexM (g:=I) (l:=x6) Tryz.underlying52 sz3 rfl rfl (fun w' hw=>(((FzA.at (sds:=(qF 3 1 I)) (vs:=q0_2) (j:=0) (nl:=1) hD0_2 (fun _ _=>rfl) ex6 rfl).up).clsP hK hw rfl))) (fun x8 ex8 h=>(L.y rfl (Y.loadE1 (u:=.int .i64 x8) ag3 rfl (fun w' hw=>(((FzA.at (sds:=(qF 3 1 I)) (vs:=q0_2) (j:=0) (nl:=1) hD0_2 (fun _ _=>rfl) ex6 rfl).up).clsP hK hw rfl)) (qf ex8)) (L.alloc rfl ze3 ?_))))))))))))
     intro b9
     refine L.r 1 rfl (L.sv (i:=0) (vs:=(jX x8)) sz3 rfl rfl rfl rfl rfl nb (ln (W.seq (W.drawn2 (k:=12) (stC [] [] (qhR w b9 x8 b1 u0_0 u0_2)) rfl mixed (fun _ hw=>hw.drew) (Sc.atD hI) (V2.zz [] (Zc.fin hI) (fun hz10=>(V2.r [0,1] (by kernel_rfl) rfl (V2.m (i:=2) (V':=fun _=>qgL (tQi q0_2 gx1) gx2.toNat) h (Nx2.of [] (by kernel_rfl) rfl hz10) rfl rfl rfl (Y.cutM (g:=I) Tryz.underlying52 sz3 rfl rfl (fun w' hw=>(((FzA.at (sds:=(qF 3 1 I)) (vs:=q0_2) (j:=0) (nl:=1) hD0_2 (fun _ _=>rfl) ex6 rfl).up).clsP hK hw rfl))) (fun l11 el11 h=>(V2.q 3 [] hz10 rfl rfl (Y.loadP (i:=0) ag3 rfl rfl rfl) (V2.eff (i:=4) (by kernel_rfl) rfl ?_)))))))))))
     obtain ⟨b12,e13,h⟩:=qc h
     refine L.y rfl (Y.does qlk rfl (fun w' hw=>(W19 l11 x8 (qgL (tQi q0_2 gx1) gx2.toNat) w' _ e13 ((((FzA.at (sds:=(qF 3 1 I)) (vs:=q0_2) (j:=0) (nl:=1) hD0_2 (fun _ _=>rfl) ex6 rfl).cutM el11).up).clsP hK hw rfl)).mono (fun _ _ h=>h.1))) ?_
     rcases b12 with _ | _
     ·replace h:=zn h
      refine L.nil (E.toV2 (stC [] [] (qhR w b9 x8 b1 u0_0 u0_2)) 4 (by kernel_rfl) (Sc.stayD hI) (Sc.atD hI) (V2.zz [] (Zc.fin hI) (fun hz14=>(V2.r [5] (by kernel_rfl) rfl (V2.q 6 [] hz14 rfl rfl (Y.fieldP xO rfl) (V2.q 7 [] hz14 rfl rfl (Y.loadP (i:=1) qhX rfl rfl rfl) (V2.q 8 [] hz14 rfl rfl (Y.func rfl) (V2.eff (i:=9) (by kernel_rfl) rfl (L.take rfl (L.callJ (fun v D=>∃ gb3,v=.bool gb3∧D=qhR w b9 x8 b1 u0_0 u0_2∧qhs gx2 go2 gb3=some r) rfl (by kernel_rfl) rfl Tryz.func33 rfl rfl rfl ?_ ?_))))))))))
      ·refine sr (L.r 1 rfl (nsr (L.r 2 rfl (L.callJ (fun v D=>∃ gx4,v=.int .i64 gx4∧D=qhR w b9 x8 b1 u0_0 u0_2∧qeV gx2 go2 gx4=some r) rfl (by kernel_rfl) rfl Tryz.func66 rfl rfl rfl ?_ ?_))))
       ·refine sr (L.r 1 rfl (ln (W.seqJ (fun gs D=>gs=[]∧D=qhR w b9 x8 b1 u0_0 u0_2∧qji gx2 go2=some r) ?_ ?_)))
        ·refine sr (L.r 1 rfl (L.y rfl (Y.lenMZ (row:=TTale.rowv) (vs:=q0_0) (l:=a0.Tales) Tryz.underlying46 rfl (fun w' hw=>(hA0_0.up.clsP hK hw rfl))) (L.r 1 rfl (ln (W.block (W.loopJ (fun m gs D=>∃ gx5,gs=[(0,u0_0),(1,.func (.func 57) #[] #[pt b9 0]),(7,qfJ a0),(8,.int .i64 gx5)]∧D=qhR w b9 x8 b1 u0_0 u0_2∧y4 a0 x8 gx2 go2 m gx5=some r) ⟨0,rfl,rfl,h⟩ ⟨rfl,rfl,rfl,rfl,trivial⟩ hI ?_))))))
         rintro m _ _ ⟨gx5,rfl,rfl,h⟩
         rcases m with _ | m
         ·rw [y4] at h;cases h
         rw [y4] at h
         generalize hg3:y4 a0 x8 gx2 go2 m=go3 at h
         rw [qdy] at h
         refine sr (L.ite h rfl (Y.lss rfl rfl) (fun c18 h=>?_) (fun c18 h=>?_))
         ·refine ln (W.seq (W.condT rfl (W.skip (E.thenN (W.seq (W.block (sr (L.r 2 rfl (ln (W.seq ?_))))))))))
          refine W.region (L.r 3 rfl (L.m (V:=fun _=>wJ u0_0 gx5) h rfl (Y.indexMZ (row:=TTale.rowv) (vs:=q0_0) (l:=a0.Tales) Tryz.underlying46 qcB rfl rfl (fun w' hw=>(hA0_0.up.clsP hK hw rfl))) (fun x19 ex19 h=>(L.y rfl (Y.loadEN (r:=(qeq x19 q0_0 gx5)) ql1 qcB rfl (fun w' hw=>(hA0_0.up.clsP hK hw rfl)) (zH (vs:=q0_0) ex19) rfl) (L.callVJ (fun v D=>v=.bool (decide (x19.Tx=x8))∧D=qhR w b9 x8 b1 u0_0 u0_2∧qjh x19 x8 gx2 go2 gx5 go3=some r) rfl (by kernel_rfl) rfl rfl Tryz.func57 rfl rfl rfl ?_ ?_)))))
          ·refine sr (L.box rfl rfl ?_)
           intro b21
           refine L.r 1 rfl (nsr (L.y rfl (Y.fieldP xv rfl) (L.y rfl (Y.loadP (i:=0) ag3 rfl rfl rfl) (L.y rfl (Y.loadP (i:=1) ag3 rfl rfl rfl) (L.y rfl (Y.eql rfl rfl) (L.r 1 rfl (ln (W.ret (E.ret1 rfl rfl (fun w1 hw=>?_))))))))))
           exact ⟨_,_,rfl,⟨rfl,rfl,h⟩,hw.s [1,2,3]⟩
          rintro _ _ ⟨rfl,rfl,h⟩
          rw [qjh] at h
          refine ln (W.caseB (q:=16) h rfl (fun h=>?_) (fun h=>?_))
          ·exact W.condT rfl (sr (L.r 2 rfl (ln (W.ret (E.blockR (E.thenR (E.KLR (E.blockR (E.KSR (E.ret1 rfl rfl (fun w1 hw=>(⟨_,_,rfl,⟨gx5,rfl,rfl,h⟩,hw⟩))))))))))))
          exact W.condF rfl (W.skip (E.blockN (E.thenN (W.region (L.m (V:=fun x20=>.int .i64 x20) h rfl (Y.addM rfl rfl) (fun x20 ex20 h=>(L.r 1 rfl (L.nil (E.aJ ⟨x20,rfl,rfl,by rw [hg3];exact h⟩ hI)))))))))
         exact ln (W.seq (W.condF rfl (W.exit (E.thenX (E.KLX (E.blockX (E.joinJ ⟨rfl,rfl,h⟩ trivial hI)))))))
        rintro _ _ ⟨rfl,rfl,h⟩
        rw [qji] at h
        exact sr (L.r 1 rfl (ln (W.ret (E.ret1 rfl rfl (fun w1 hw=>(⟨_,_,rfl,⟨(-1),rfl,rfl,h⟩,hw⟩))))))
       rintro _ _ ⟨gx4,rfl,rfl,h⟩
       rw [qeV] at h
       exact L.y rfl (Y.geq rfl rfl) (L.r 1 rfl (ln (W.ret (E.ret1 rfl rfl (fun w1 hw=>(⟨_,_,rfl,⟨decide (0≤gx4),rfl,rfl,h⟩,hw⟩))))))
      rintro _ _ ⟨gb3,rfl,rfl,h⟩
      rw [qhs] at h
      rcases gb3 with _ | _
      ·replace h:=zn h
       refine L.nil (E.toV2 (stC [] [] (qhR w b9 x8 b1 u0_0 u0_2)) 9 (by kernel_rfl) (Sc.stayD hI) (Sc.atD hI) (V2.zz [] (Zc.fin hI) (fun hz15=>(V2.q 10 [] hz15 rfl rfl (Y.not rfl) (V2.r [11] (by kernel_rfl) rfl (V2.done (by kernel_rfl) (E.thenN (W.condT rfl (sr (L.r 1 rfl (ln (W.ret ?_))))))))))))
       refine E.blockR (E.thenR (E.KLR (E.blockR (E.blockR (E.KSR (E.KLR (E.blockR (E.KSR (E.ret1 rfl rfl (fun w1 hw=>?_))))))))))
       cases h
       exact ⟨_,_,rfl,⟨rfl,rfl⟩,hw.s []⟩
      replace h:=zm h
      refine L.nil (E.toV2 (stC [] [] (qhR w b9 x8 b1 u0_0 u0_2)) 9 (by kernel_rfl) (Sc.stayD hI) (Sc.atD hI) (V2.zz [] (Zc.fin hI) (fun hz16=>(V2.q 10 [] hz16 rfl rfl (Y.not rfl) (V2.r [11] (by kernel_rfl) rfl (V2.done (by kernel_rfl) (E.thenN (W.condF rfl (W.skip (E.blockN (E.thenN (W.region (L.m (V:=fun x17=>.int .i64 x17) h rfl (Y.addM rfl rfl) (fun x17 ex17 h=>(L.r 1 rfl ?_)))))))))))))))
      exact L.nil (E.aJ ⟨x17,rfl,rfl,by rw [hg2];exact h⟩ (sI [1,2]))
     replace h:=zm h
     refine L.nil (E.toV2 (stC [] [] (qhR w b9 x8 b1 u0_0 u0_2)) 4 (by kernel_rfl) (Sc.stayD hI) (Sc.atD hI) (V2.r [5,6,7,8,9,10,11] (by kernel_rfl) rfl (V2.done (by kernel_rfl) (E.thenN (W.condT rfl (sr (L.r 1 rfl (ln (W.ret (E.blockR (E.thenR ?_)))))))))))
     refine E.KLR (E.blockR (E.blockR (E.KSR (E.KLR (E.blockR (E.KSR (E.ret1 rfl rfl (fun w1 hw=>?_))))))))
     cases h
     exact ⟨_,_,rfl,⟨rfl,rfl⟩,hw.s []⟩
    exact ln (W.seq (W.condF rfl (W.exit (E.thenX (E.KLX (E.blockX (E.blockN (E.jJ ⟨rfl,rfl,h⟩ hI))))))))
   rintro _ _ ⟨rfl,rfl,h⟩
   rw [qht] at h
   exact W.region (L.m (V:=fun x5=>.int .i64 x5) h rfl (Y.addM rfl rfl) (fun x5 ex5 h=>(L.r 1 rfl (L.nil (E.aJ ⟨x5,rfl,rfl,by rw [hg1];exact h⟩ hI)))))
  exact ln (W.seq (W.condF rfl (W.exit (E.thenX (E.KLX (E.blockX (E.joinJ ⟨rfl,rfl,h⟩ trivial (sI [1]))))))))
 rintro _ _ ⟨rfl,rfl,h⟩
 rw [qjj] at h
 refine sr (L.r 1 rfl (ln (W.ret (E.ret1 rfl rfl (fun w1 hw=>?_)))))
 cases h
 exact ⟨_,_,rfl,⟨rfl,rfl⟩,hw.s []⟩
end Go.Proofs.YtdlemoeinjihkaaGreatDoor
