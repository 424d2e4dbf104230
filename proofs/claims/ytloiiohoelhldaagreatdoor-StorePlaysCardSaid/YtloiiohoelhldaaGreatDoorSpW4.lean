import Derived.Test.YtloiiohoelhldaaGreatDoorSpV
import Derived.Test.YtloiiohoelhldaaGreatDoorSpW3
import Derived.Test.YtloiiohoelhldaaGreatDoorChecked
import Derived.KernelRfl
import Derived.Test.YtloiiohoelhldaaGreatDoorZg
set_option maxRecDepth 100000
set_option maxHeartbeats 8000000
namespace Go.Proofs.YtloiiohoelhldaaGreatDoor
open Go.S
set_option linter.unusedVariables false
set_option linter.unusedSimpArgs false
theorem W99{a0 a1 u0 w r}(h:M99 a0 a1=some r)(hA0:At w u0 1 (a0.map I)):Does Tryz.prog 99 [u0,.int .i64 a1] w fun u m=>u=.int .i64 r∧m=[]:=by
 rw[M99]at h
 refine body (n:=19) Tryz.func99 O O O (Cls.refl w)<|sr<|L.r 1 O<|ln<|ar (fun gs D=>gs=[]∧D=Cls w [] []∧qjf=some r) ?_ ?_
 ·refine sr<|L.r 1 O<|yL (aF (g:=I) (l:=a0) Tryz.underlying49 O fun w' hw=>hA0.cls0 hw)<|L.r 1 O<|cjp<|au (fun m gs D=>∃gx1,gs=[(0,u0),(1,.int .i64 a1),(7,.int .i64 (a0.length:Int)),(8,.int .i64 gx1)]∧D=Cls w [] []∧qbx a0 a1 m gx1=some r) ⟨0,O,O,h⟩ ⟨O,O,O,O,trivial⟩ hI ?_
  rintro m _ _ ⟨gx1,rfl,rfl,h⟩
  rcases m with _|m
  ·rw[qbx]at h;cases h
  rw[qbx]at h
  generalize hg1:qbx a0 a1 m=go1 at h
  rw[qeQ]at h
  refine sr<|ltL h (fun c1 h=>?_) fun c1 h=>?_
  ·refine cje<|L.r 2 O<|cjm<|ah<|L.r 3 O<|mL (fun _=>el u0<|tbG gx1) h (ap (g:=I) (l:=a0) Tryz.underlying49 sz3 O O fun w' hw=>hA0.cls0 hw) fun x2 ex2 h=>(yL (aB (u:=.int .i64 x2) ag3 O (fun w' hw=>hA0.cls0 hw)<|ql ex2)<|eqL h (fun c3 h=>?_) fun c3 h=>?_)
   ·cases h
    exact cjb<|L.r 2 O<|cjc<|cjk<|rT d0
   exact cja<|cjj<|mA h fun x4 ex4 h=>(L.r 1 O<|ae<|bi ⟨x4,O,O,by rw[hg1];exact h⟩ hI)
  exact cjm<|cjd<|bB ⟨O,O,h⟩ trivial hI
 rintro _ _ ⟨rfl,rfl,h⟩
 rw[qjf]at h
 cases h
 exact sr<|L.r 1 O<|cjc<|rT d0
theorem W57{a0 a1 u0 w r}(h:M57 a0 a1=some r)(hA0:At w u0 1 (a0.map I)):Does Tryz.prog 57 [u0,.int .i64 a1] w fun u m=>u=.bool r∧m=[]:=by
 rw[M57]at h
 refine body (n:=9) Tryz.func57 O O O (Cls.refl w)<|sr<|L.r 1 O<|nsr<|L.r 2 O<|bi1 h fun x1 e2 h=>yL (ye O fun w' hw=>W99 e2 (hA0.cls0 hw))<|yL (bU O O)<|L.r 1 O<|cjc<|rT fun w1 hw=>?_
 cases h
 exact⟨_,_,O,⟨O,O⟩,hw⟩
theorem W58{a0 a1 u0 w r}(h:M58 a0 a1=some r)(hA0:At w u0 2 (tcy a0)):Does Tryz.prog 58 [u0,.int .i64 a1] w fun u m=>u=.tuple #[st r.1,.bool r.2]∧m=[]:=by
 rw[M58]at h
 refine body (n:=29) Tryz.func58 O O O (Cls.refl w)<|sr<|L.r 2 O<|nsr<|L.r 1 O<|ln<|ar (fun gs D=>∃gx1,gs=[(0,u0),(6,.int .i64 gx1)]∧D=Cls w [] []∧qhX a0 gx1=some r) ?_ ?_
 ·refine sr<|L.r 1 O<|yL (aF (g:=TVersion.row) (l:=a0) Tryz.underlying63 O fun w' hw=>hA0.cls0 hw)<|L.r 1 O<|cjp<|au (fun m gs D=>∃gx2 gx3,gs=[(0,u0),(1,.int .i64 a1),(6,.int .i64 gx2),(9,u0),(10,.int .i64 (a0.length:Int)),(11,.int .i64 gx3)]∧D=Cls w [] []∧qbL a0 a1 m gx2 gx3=some r) ⟨(-1),0,O,O,h⟩ ⟨O,O,O,O,O,O,trivial⟩ hI ?_
  rintro m _ _ ⟨gx2,gx3,rfl,rfl,h⟩
  rcases m with _|m
  ·rw[qbL]at h;cases h
  rw[qbL]at h
  generalize hg1:qbL a0 a1 m=go1 at h
  rw[qfh]at h
  refine sr<|ltL h (fun c3 h=>?_) fun c3 h=>?_
  ·refine cje<|L.r 1 O<|mL (fun _=>el u0 (gx3.toNat*2)) h (ap (g:=TVersion.row) (l:=a0) Tryz.underlying63 qaC O O fun w' hw=>hA0.cls0 hw) fun x4 ex4 h=>(yL (bR (r:=(tcs x4)) qlw qaC O (fun w' hw=>hA0.cls0 hw) (ql ex4) O)<|L.alloc O qm7 fun b5=>L.r 1 O<|svL 0 (tcs x4) qaC O O O<|nsr<|yF kb O<|yP 0 ag3 O O O<|L.r 1 O<|iL h (cy O O) (fun c6 h=>?_) fun c6 h=>?_)
   ·exact cjg<|ah<|L.r 2 O<|ae<|cjj<|mA h fun x7 ex7 h=>(L.r 1 O<|ae<|bi ⟨gx3,x7,O,O,by rw[hg1];exact h⟩<|sI [])
   exact cja<|cjj<|mA h fun x8 ex8 h=>(L.r 1 O<|ae<|bi ⟨gx2,x8,O,O,by rw[hg1];exact h⟩<|sI [])
  exact cjm<|cjd<|ay ⟨gx2,O,O,h⟩ hI
 rintro _ _ ⟨gx1,rfl,rfl,h⟩
 rw[qhX]at h
 refine aE<|sr<|L.r 1 O<|ltL h (fun c1 h=>?_) fun c1 h=>?_
 ·cases h
  exact cjb<|L.r 2 O<|cjh<|rT2 d0
 refine cji<|L.r 2 O<|mL (fun _=>el u0 (gx1.toNat*2)) h (ap (g:=TVersion.row) (l:=a0) Tryz.underlying63 qaC O O fun w' hw=>hA0.cls0 hw) fun x2 ex2 h=>(yL (ch qjY O)<|yL (cP (u:=st x2.Text) ag9 O (fun w' hw=>hA0.cls0 hw) (ql ex2) O)<|L.r 2 O<|cjc<|rT2 fun w1 hw=>?_)
 cases h
 exact⟨_,_,O,⟨O,O⟩,hw⟩
theorem W25{a0 a1 a2 A67 kK kG kB kA kH kN w r F}(h:M25 a0 a1 a2 A67 kK=some r)(hc0:Cls w F (tbg kG kB kA kH A67 kN kK) w):qz Tryz.prog 25 (VP kG a0::tcH a1 a2) F w fun u m=>∃Q130,u=.tuple #[st r.2.1,.int .i64 r.2.2]∧m=[tar kG kB kA kH A67,yV kA Q130 r.1 []]:=by
 rw[M25]at h
 refine body (n:=66) Tryz.func25 O O O hc0<|bi1 h fun th1 kR h=>bC (D:=tS w F kG a0 kB th1 kH kA A67 kN kK) (aoI 0 O kR)<|sr<|L.r 2 O<|nsr<|L.r 3 O<|aj (D:=Cls w F<|tbg kG kB kA kH A67 kN kK) (asI [0,1,2,3,4,5,6] kR O)<|bi2 h fun x2 x3 e4 h=>aV (A:=(tbg kG kB kA kH A67 kN kK)) (M:=[]) O qmQ O (fun w' hw=>W56 e4 hw.lend) ?_
 rintro _ _ ⟨rfl,rfl⟩
 refine aj (D:=Cls w F<|tbg kG kB kA kH A67 kN kK) hI<|bi1 h fun th5 jY h=>aj (D:=tS w F kG a0 kB th5 kH kA A67 kN kK) (aoI 0 O jY)<|L.r 5 O<|cjf<|L.r 1 O<|neL h (fun c6 h=>?_) fun c6 h=>?_
 ·cases h
  exact cjb<|L.r 3 O<|cjh<|az (D:=Cls w F<|tbg kG kB kA kH A67 kN kK) (asI [0,1,2,3,4,5,6] jY O)<|rT2 fun w1 hw=>⟨_,_,O,⟨_,O,O⟩,hw⟩
 refine cjl<|sr<|L.r 1 O<|bi1 h fun th7 jZ h=>aj (D:=Cls w F (.obj (kA x2.toNat) (taR th7 kN x2) 130::.sl (tc kN x2) 3 1 (th7.reads_.map I)::.sl (td kN x2) 3 1 (th7.writes_.map I)::tI th7::tcj kA kN kK x2::tQ kG a0 kB th5 kH kA A67)) (aoI 6 O jZ)<|yNF O jZ z6<|yL (al (q:=0) (si:=4) (ps:=4) (j:=0) (X:=[(td kN x2)]) qbv O O O O O O)<|L.r 1 O<|bi1 h fun b8 e9 h=>yL (yf qmP O fun w' hw=>W57 e9 (As.at_ (hw.get (i:=2) O))) ?_
 rcases b8 with _|_
 ·replace h:=qU h
  refine cja<|ab<|ar (fun gs D=>∃gl1 gq2,gs=[(0,VP kG a0),(2,.int .i64 a2),(8,VP kA x2)]∧D=Cls w F (tC kA gq2 gl1::kZ kG kB kA kH A67 (tf a0)::tP kG a0 kB th5 kH kA)∧qgk x2 th5 a2 gl1=some r) ?_ ?_
  ·refine sr<|L.r 1 O<|yNF O jZ wn<|yL (al (q:=0) (si:=3) (ps:=3) (j:=0) (X:=[(tc kN x2)]) qbv O O O O O O)<|L.r 1 O<|bi1 h fun b16 e17 h=>yL (yf qmP O fun w' hw=>W57 e17 (As.at_ (hw.get (i:=1) O))) ?_
   rcases b16 with _|_
   ·replace h:=qU h
    exact yL (bf O)<|cjg<|ah<|L.r 2 O<|yNF O jZ wn<|yL (al (q:=0) (si:=3) (ps:=3) (j:=0) (X:=[(tc kN x2)]) qbv O O O O O O)<|L.r 1 O<|aI O Tryz.underlying49 eL3 O O fun b18=>bc (i:=2) (g:=I) (l:=th7.reads_) (more:=[a2]) h O Tryz.underlying49 eL3 O O O (aG 0 O) (zb _) O fun v19 l20 el20 h=>yNF O jZ wn<|bP (q:=2) (si:=3) (ps:=3) (j:=0) (X:=[(tc kN x2)]) qku O O O (fun _ hw=>(As.at_ (hw.get (i:=0) O)).one) O O O O<|ae<|bi1 h fun l22 el22 h=>bL (row:=Ttx.rowA) (sub:=Ttx.subA) (e:=130) (g:=kA) (gh:=kN) (vs':=[v19,(td kN x2)]) (m':=(taG b18 a2::tQ kG a0 kB th5 kH kA A67)) [2,0,3,4,5,1,6,7,8,9,10,11] el22 O fun q21=>az (D:=Cls w F (tC kA q21 l22::taG b18 a2::tQ kG a0 kB th5 kH kA A67)) hI<|ay ⟨l22,q21,O,O,h⟩<|sI [0,7,2,5,6,3,4]
   replace h:=qT h
   exact yL (bf O)<|cja<|az (D:=Cls w F (tC kA kN kK::tQ kG a0 kB th5 kH kA A67)) (asI [0,1,2,3,4,5,6,7,8,9,10] jZ O)<|ay ⟨kK,kN,O,O,h⟩<|sI [0,6,1,4,5,2,3]
  rintro _ _ ⟨gl1,gq2,rfl,rfl,h⟩
  rw[qgk]at h
  refine aE<|bi1 h fun zS eth10 h=>bC (D:=Cls w F (.obj (kA x2.toNat) (taR zS gq2 x2) 130::.sl (tc gq2 x2) 3 1 (zS.reads_.map I)::.sl (td gq2 x2) 3 1 (zS.writes_.map I)::tI zS::tcj kA gq2 gl1 x2::kZ kG kB kA kH A67 (tf a0)::tP kG a0 kB th5 kH kA)) (aoI 0 O eth10)<|aZ mixed (by kernel_rfl) (fun _ hw=>hw.drew) fun hC=>(U.r 2 O<|fQ O (aQ O jY)<|fQ O (aa wC O)<|fR (V:=fun _=>tcG kG a0 a2) h O (aR (l:=th5.items_) Tryz.underlying64 qgs O O) fun x11 ex11 h=>bi1 h fun _ en12 h=>?_)
  obtain⟨_,en12⟩:=qd en12
  refine fQ O (bF (si:=5) (ps:=6) (q:=6) (row:=qn) (vs:=(tk kH a0)) (j:=0) (pv:=gv ((tk kH a0) a2.toNat) 0) qmU O O O O (by simp[zl,qc,en12]) (fun _ _=>O) (qm ex11) O)<|U.r 1 O<|fQ O (aQ O eth10)<|fQ O (aa qbq O)<|fQ O (al (q:=0) (si:=1) (ps:=1) (j:=0) (X:=[.int .i64 zS.from_]) ag3 O O O O O O)<|bi2 h fun s13 b14 e15 h=>fQ O (ye O fun w' hw=>W58 e15 (As.atZ (sds:=ti) (vs:=(tk kH a0)) (j:=0) (c:=1) (hw.get (i:=8) O) (fun _ _=>O) (qm ex11) O))<|U.r 5 O<|bo<|ab<|sr<|L.r 3 O<|cjc<|az (D:=Cls w F (tC kA gq2 gl1::kZ kG kB kA kH A67 (tf a0)::tP kG a0 kB th5 kH kA)) (asI [0,1,2,3,4,5,6,7,8,9,10] eth10 O)<|az (D:=Cls w F<|tbg kG kB kA kH A67 gq2 gl1) (asI [2,5,6,3,4,1,0] jY O)<|rT2 fun w1 hw=>?_
  cases h
  exact⟨_,_,O,⟨_,O,O⟩,hw⟩
 replace h:=qT h
 refine cjb<|L.r 2 O<|yNF O jZ y7<|mL (fun _=>pt (kA x2.toNat) (5+a2.toNat*1)) h (aR (l:=th7.texts_) Tryz.underlying46 sz9 O O) fun x23 ex23 h=>(yL (bF (si:=5) (ps:=5) (q:=0) (row:=(fzr SR)) (vs:=(fun _=>[])) (j:=0) (pv:=st x23) ag9 O O O O O (fun _ _=>O) (qm ex23) O)<|L.r 2 O<|cjh<|az (D:=Cls w F (tC kA kN kK::tQ kG a0 kB th5 kH kA A67)) (asI [0,1,2,3,4,5,6,7,8,9,10] jZ O)<|az (D:=Cls w F<|tbg kG kB kA kH A67 kN kK) (asI [1,2,3,4,5,6,0] jY O)<|rT2 fun w1 hw=>?_)
 cases h
 exact⟨_,_,O,⟨_,O,O⟩,hw⟩
theorem W26{a0 a1 a2 a3 A67 kK kG kB kA kH kN w r F}(h:M26 a0 a1 a2 a3 A67 kK=some r)(hc0:Cls w F (tbg kG kB kA kH A67 kN kK) w):qz Tryz.prog 26 (VP kG a0::.int .i64 a1::tcQ a2 a3) F w fun u m=>∃Q130,u=.int .i64 r.2∧m=[tar kG kB kA kH A67,yV kA Q130 r.1 []]:=by
 rw[M26]at h
 refine body (n:=47) Tryz.func26 O O O hc0<|bi1 h fun th1 kR h=>bC (D:=tS w F kG a0 kB th1 kH kA A67 kN kK) (aoI 0 O kR)<|sr<|L.r 1 O<|nsr<|L.r 3 O<|aj (D:=Cls w F<|tbg kG kB kA kH A67 kN kK) (asI [0,1,2,3,4,5,6] kR O)<|bi2 h fun x2 x3 e4 h=>aV (A:=(tbg kG kB kA kH A67 kN kK)) (M:=[]) O qmQ O (fun w' hw=>W56 e4 hw.lend) ?_
 rintro _ _ ⟨rfl,rfl⟩
 refine aj (D:=Cls w F<|tbg kG kB kA kH A67 kN kK) hI<|bi1 h fun th5 jY h=>aj (D:=tS w F kG a0 kB th5 kH kA A67 kN kK) (aoI 0 O jY)<|L.r 5 O<|cjf<|L.r 1 O<|neL h (fun c6 h=>?_) fun c6 h=>?_
 ·cases h
  exact cjb<|L.r 2 O<|cjh<|az (D:=Cls w F<|tbg kG kB kA kH A67 kN kK) (asI [0,1,2,3,4,5,6] jY O)<|rT fun w1 hw=>⟨_,_,O,⟨_,O,O⟩,hw⟩
 refine cjl<|sr<|L.r 1 O<|yL (aK Tryz.underlying9 O)<|gtL h (fun c7 h=>?_) fun c7 h=>?_
 ·cases h
  exact cjb<|L.r 1 O<|cjh<|az (D:=Cls w F<|tbg kG kB kA kH A67 kN kK) (asI [0,1,2,3,4,5,6] jY O)<|rT fun w1 hw=>⟨_,_,O,⟨_,O,O⟩,hw⟩
 refine cjl<|sr<|L.r 1 O<|bi1 h fun th8 yR h=>aj (D:=Cls w F (.obj (kA x2.toNat) (taR th8 kN x2) 130::.sl (tc kN x2) 3 1 (th8.reads_.map I)::.sl (td kN x2) 3 1 (th8.writes_.map I)::tI th8::tcj kA kN kK x2::tQ kG a0 kB th5 kH kA A67)) (aoI 6 O yR)<|yNF O yR z6<|yL (al (q:=0) (si:=4) (ps:=4) (j:=0) (X:=[(td kN x2)]) qbv O O O O O O)<|L.r 1 O<|bi1 h fun b9 e10 h=>yL (yf qmP O fun w' hw=>W57 e10 (As.at_ (hw.get (i:=2) O))) ?_
 rcases b9 with _|_
 ·replace h:=qU h
  refine yL (bf O)<|cjg<|ah<|L.r 2 O<|yNF O yR z6<|yL (al (q:=0) (si:=4) (ps:=4) (j:=0) (X:=[(td kN x2)]) qbv O O O O O O)<|L.r 1 O<|aI O Tryz.underlying49 eL3 O O fun b11=>bc (i:=3) (g:=I) (l:=th8.writes_) (more:=[a2]) h O Tryz.underlying49 eL3 O O O (aG 0 O) (zb _) O fun v12 l13 el13 h=>yNF O yR z6<|bP (q:=2) (si:=4) (ps:=4) (j:=0) (X:=[(td kN x2)]) qku O O O (fun _ hw=>(As.at_ (hw.get (i:=0) O)).one) O O O O<|nsr<|L.r 3 O<|yNF O yR y7<|mL (fun _=>pt (kA x2.toNat) (5+a2.toNat*1)) h (aR (l:=th8.texts_) Tryz.underlying46 sz9 O O) fun x14 ex14 h=>(bG (si:=5) (ps:=5) (row:=(fzr SR)) (sds:=sd0) (vs:=(fun _=>[])) (q:=2) (s:=4) (c:=0) (u1:=a3) (vals:=[st a3]) (j:=0) h sz9 O O O O O (qW O zg) O O O O (fun _ _=>O) (qm ex14) O O (fun _ _=>O) O fun l15 el15 h=>nsr<|L.r 1 O<|cjc<|bi1 h fun l17 el17 h=>bL (row:=Ttx.rowA) (sub:=Ttx.subA) (e:=130) (g:=kA) (gh:=kN) (vs':=[(tc kN x2),v12]) (m':=(taG b11 a2::tQ kG a0 kB th5 kH kA A67)) [2,3,0,4,5,1,6,7,8,9,10,11] el17 O fun q16=>az (D:=Cls w F (tC kA q16 l17::taG b11 a2::tQ kG a0 kB th5 kH kA A67)) hI<|az (D:=Cls w F [tar kG kB kA kH A67,tC kA q16 l17,taG b11 a2]) (asI [2,3,4,5,6,7,0,1] jY O)<|rT fun w1 hw=>?_)
  cases h
  exact⟨_,_,O,⟨_,O,O⟩,hw.s [0,1]⟩
 replace h:=qT h
 refine yL (bf O)<|cji<|L.r 3 O<|yNF O yR y7<|mL (fun _=>pt (kA x2.toNat) (5+a2.toNat*1)) h (aR (l:=th8.texts_) Tryz.underlying46 sz9 O O) fun x18 ex18 h=>(bG (si:=5) (ps:=5) (row:=(fzr SR)) (sds:=sd0) (vs:=(fun _=>[])) (q:=0) (s:=3) (c:=0) (u1:=a3) (vals:=[st a3]) (j:=0) h sz9 O O O O O (qW O zg) O O O O (fun _ _=>O) (qm ex18) O O (fun _ _=>O) O fun l19 el19 h=>nsr<|L.r 1 O<|cjc<|bi1 h fun l21 el21 h=>bL (row:=Ttx.rowA) (sub:=Ttx.subA) (e:=130) (g:=kA) (gh:=kN) (vs':=(taS kN x2)) (m':=(tQ kG a0 kB th5 kH kA A67)) [0,1,2,3,4,5,6,7,8,9,10] el21 O fun q20=>az (D:=Cls w F (tC kA q20 l21::tQ kG a0 kB th5 kH kA A67)) hI<|az (D:=Cls w F<|tbg kG kB kA kH A67 q20 l21) (asI [1,2,3,4,5,6,0] jY O)<|rT fun w1 hw=>?_)
 cases h
 exact⟨_,_,O,⟨_,O,O⟩,hw⟩
theorem qmV{a0 a1 u0 u1 w r}(h:qki a0 a1=some r)(hA0:At w u0 1 (a0.map I))(hA1:At w u1 1 (a1.map I)):Does Tryz.prog 100 [u0,u1] w fun u m=>u=.bool r∧m=[]:=by
 rw[qki]at h
 refine body (n:=8) Tryz.func100 O O O (Cls.refl w)<|sr<|fu O O (fun _ hw=>(hA1.cls0 hw).one) fun b1=>L.r 1 O<|nsr<|L.r 1 O<|yL (cL O)<|bQ (fun v D=>∃gb1,v=.bool gb1∧D=Cls w [] []∧qik gb1=some r) O (by kernel_rfl) O Tryz.func128 O O O ?_ ?_
 ·refine sr<|L.r 1 O<|nsr<|L.r 2 O<|bQ (fun v D=>∃gx2,v=.int .i64 gx2∧D=Cls w [] []∧qfG gx2=some r) O (by kernel_rfl) O Tryz.func142 O O O ?_ ?_
  ·refine sr<|L.r 1 O<|ln<|ar (fun gs D=>gs=[]∧D=Cls w [] []∧qij=some r) ?_ ?_
   ·refine sr<|L.r 1 O<|yL (aF (g:=I) (l:=a0) Tryz.underlying49 O fun w' hw=>hA0.cls0 hw)<|L.r 1 O<|cjp<|au (fun m gs D=>∃gx3,gs=[(0,u0),(1,.func (.func 129) #[] #[pt b1 0]),(7,.int .i64 (a0.length:Int)),(8,.int .i64 gx3)]∧D=Cls w [] [.obj b1 [u1] 49]∧vX a0 a1 m gx3=some r) ⟨0,O,O,h⟩ ⟨O,O,O,O,trivial⟩ hI ?_
    rintro m _ _ ⟨gx3,rfl,rfl,h⟩
    rcases m with _|m
    ·rw[vX]at h;cases h
    rw[vX]at h
    generalize hg1:vX a0 a1 m=go1 at h
    rw[qcd]at h
    refine sr<|ltL h (fun c2 h=>?_) fun c2 h=>?_
    ·refine cje<|L.r 2 O<|cjm<|ah<|L.r 3 O<|mL (fun _=>el u0<|tbG gx3) h (ap (g:=I) (l:=a0) Tryz.underlying49 sz3 O O fun w' hw=>hA0.cls0 hw) fun x3 ex3 h=>(yL (aB (u:=.int .i64 x3) ag3 O (fun w' hw=>hA0.cls0 hw)<|ql ex3)<|bu (fun v D=>∃gb4,v=.bool gb4∧D=Cls w [] [.obj b1 [u1] 49]∧qfF gx3 go1 gb4=some r) O (by kernel_rfl) O O Tryz.func129 O O O ?_ ?_)
     ·exact sr<|L.r 1 O<|nsr<|yP 0 qbv O O O<|L.r 1 O<|bi1 h fun b5 e6 h=>yL (yf qmP O fun w' hw=>W57 e6 (hA1.cls0 hw))<|L.r 1 O<|cjc<|bb O O fun w1 hw=>⟨_,_,O,⟨b5,O,O,h⟩,hw⟩
     rintro _ _ ⟨gb4,rfl,rfl,h⟩
     rw[qfF]at h
     rcases gb4 with _|_
     ·replace h:=qU h
      exact cja<|cjj<|mA h fun x4 ex4 h=>(L.r 1 O<|ae<|bi ⟨x4,O,O,by rw[hg1];exact h⟩ hI)
     replace h:=qT h
     exact cjb<|L.r 2 O<|cjc<|cjk<|bb O O fun w1 hw=>⟨_,_,O,⟨gx3,O,O,h⟩,hw.s []⟩
    exact cjm<|cjd<|bB ⟨O,O,h⟩ trivial<|sI []
   rintro _ _ ⟨rfl,rfl,h⟩
   rw[qij]at h
   exact sr<|L.r 1 O<|cjc<|bb O O fun w1 hw=>⟨_,_,O,⟨(-1),O,O,h⟩,hw⟩
  rintro _ _ ⟨gx2,rfl,rfl,h⟩
  rw[qfG]at h
  exact yL (bU O O)<|L.r 1 O<|cjc<|bb O O fun w1 hw=>⟨_,_,O,⟨decide (0≤gx2),O,O,h⟩,hw⟩
 rintro _ _ ⟨gb1,rfl,rfl,h⟩
 rw[qik]at h
 cases h
 exact L.r 1 O<|cjc<|rT d0
theorem W59{a0 a1 A67 kK kG kB kA kH kN w r F}(h:M59 a0 a1 A67 kK=some r)(hc0:Cls w F (tbg kG kB kA kH A67 kN kK) w):qz Tryz.prog 59 [VP kG a0,VP kA a1] F w fun u m=>∃v0 v1,u=.tuple #[v0,v1,.bool r.2.2]∧m=[tar kG kB kA kH A67,tC kA kN kK,.sl v0 127 1 (r.1.map (PR kA)),.sl v1 127 1 (r.2.1.map (PR kA))]:=by
 rw[M59]at h
 refine body (n:=105) Tryz.func59 O O O hc0<|bi1 h fun th1 kR h=>bC (D:=tS w F kG a0 kB th1 kH kA A67 kN kK) (aoI 0 O kR)<|sr<|L.r 3 O<|nsr<|L.r 2 O<|ln<|ar (fun gs D=>∃gv1 gl2 gv3 gl4 gb5 gb6,gs=[(4,gv1),(5,gv3),(7,.bool gb5),(8,.bool gb6)]∧D=Cls w F (tao kG kB kA kH A67 a0::tC kA kN kK::.obj (kG a0.toNat) (List.flatten ((zr (tcg kB) (fun _=>[]) th1.logs_).flatten::[.int .i64 th1.half_]::[.int .i64 th1.gen_]::[.bool th1.down_]::[.int .i64 th1.now_]::(zr qn (tk kH a0) th1.items_).flatten::tbx kH a0)) 67::.ss (zs sd0 (fun _=>[]) th1.logs_)::.ss (zs ti (tk kH a0) th1.items_)::tq gv1 gl2 kA::tq gv3 gl4 kA::taD kH a0 th1 kA)∧qjr gl2 gl4 gb5 gb6=some r) ?_ ?_
 ·refine sr<|L.r 1 O<|yNF O kR qcM<|bi1 h fun _ en3 h=>?_
  obtain⟨_,en3⟩:=qd en3
  obtain⟨_,en4,h⟩:=qq h
  obtain⟨_,en4⟩:=qd en4
  refine yL (al (q:=0) (si:=7) (ps:=27) (j:=0) (X:=[(td kH a0)]) qj6 O O O O (by simp[zl,qc,en3,en4]) O)<|yL (aF (g:=(PR kA)) (l:=th1.over_) Tryz.underlying65 O<|aG 2 O)<|L.r 1 O<|cjp<|W.nilSl 127 1<|W.nilSl 127 1<|au (fun m gs D=>∃gv7 gl8 gv9 kO jF jP jB,gs=[(1,VP kA a1),(4,gv7),(5,gv9),(7,.bool jF),(8,.bool jP),(16,(td kH a0)),(17,tbB th1),(18,taB jB)]∧D=Cls w F [tao kG kB kA kH A67 a0,tC kA kN kK,.obj (kG a0.toNat) (List.flatten ((zr (tcg kB) (fun _=>[]) th1.logs_).flatten::[.int .i64 th1.half_]::[.int .i64 th1.gen_]::[.bool th1.down_]::[.int .i64 th1.now_]::(zr qn (tk kH a0) th1.items_).flatten::tbx kH a0)) 67,.ss (zs sd0 (fun _=>[]) th1.logs_),.ss (zs ti (tk kH a0) th1.items_),tq gv7 gl8 kA,tq gv9 kO kA,.sl (td kH a0) 127 1 (th1.over_.map (PR kA)),.sl (tc kH a0) 127 1 (th1.active_.map (PR kA))]∧kr th1 kK a1 m gl8 kO jF jP jB=some r) ⟨tO,[],tO,[],false,false,0,O,O,h⟩ ⟨O,O,O,O,O,O,O,O,trivial⟩ (sI [7,8,2,5,6,1,0,4,3]) ?_
  rintro m _ _ ⟨gv7,gl8,gv9,kO,jF,jP,jB,rfl,rfl,h⟩
  rcases m with _|m
  ·rw[kr]at h;cases h
  rw[kr]at h
  generalize hg1:kr th1 kK a1 m=go1 at h
  rw[qfg]at h
  refine sr<|ltL h (fun c5 h=>?_) fun c5 h=>?_
  ·refine cje<|mL (fun _=>el (td kH a0)<|tbG jB) h (ap (g:=(PR kA)) (l:=th1.over_) Tryz.underlying65 jl O O<|aG 7 O) fun x6 ex6 h=>(yL (aB (u:=VP kA x6) wQ O (aG 7 O)<|ql ex6)<|L.r 1 O<|ae<|ab<|aE<|aE<|bi1 h fun th7 jZ h=>bC (D:=Cls w F (tac kA x6 th7 kN::tbh kN x6 th7::tba kN x6 th7::tbk th7::tcI kA kN kK x6::tb kG kB kA kH A67 a0 th1 gv7 gl8 gv9 kO)) (aoI 1 O jZ)<|bi1 h fun th8 yR h=>bi1 h fun _ c9 h=>bC (D:=Cls w F (tac kA a1 th8 kN::tbh kN a1 th8::tba kN a1 th8::tbk th8::yV kA kN kK (tbI a1 x6)::tac kA x6 th7 kN::tbh kN x6 th7::tba kN x6 th7::tbk th7::tb kG kB kA kH A67 a0 th1 gv7 gl8 gv9 kO)) (fun _ hw=>hw.arOpen (p:=4) O yR<|qdw (qw c9) yR jZ List.not_mem_nil)<|aZ mixed (by kernel_rfl) (fun _ hw=>hw.drew) fun hC=>(U.r 1 O<|fQ O (aQ O jZ)<|fQ O (aa qbp O)<|fQ O (al (q:=5) (si:=2) (ps:=2) (j:=0) (X:=[.int .i64 th7.at_]) ag3 O O O O O O)<|U.r 1 O<|fQ O (aQ O yR)<|fQ O (aa qbq O)<|fQ O (al (q:=0) (si:=1) (ps:=1) (j:=0) (X:=[.int .i64 th8.from_]) ag3 O O O O O O)<|da h O (cy O O) (fun c10 h=>?_) fun c10 h=>?_))
   ·exact bo<|ab<|aX O<|cr<|bH<|bJ<|ab<|ah<|mA h fun x11 ex11 h=>(L.r 1 O<|ae<|az (D:=Cls w F (tcI kA kN kK x6::tac kA x6 th7 kN::tbh kN x6 th7::tba kN x6 th7::tbk th7::tb kG kB kA kH A67 a0 th1 gv7 gl8 gv9 kO)) (fun _ hw=>hw.arShut (hs':=(tbI a1 x6)) [0,1,2,3,4,5,6,7,8,9,10,11,12,13,14,15,16] yR (by decide) O (fun _=>List.mem_cons)<|qdw (qw c9) yR jZ List.not_mem_nil)<|az (D:=Cls w F<|tcJ kA kN kK kG kB kH A67 a0 th1 gv7 gl8 gv9 kO) (asI [1,2,3,4,0,5,6,7,8,9,10,11,12] jZ O)<|bi ⟨gv7,gl8,gv9,kO,jF,jP,x11,O,O,by rw[hg1];exact h⟩<|sI [1,0,2,3,4,5,6,7,8])
   refine bo<|ab<|a6 O<|aN<|ab<|ar (fun gs D=>∃yG jH,gs=(tct kA a1 gv7 gv9 jF jP x6 yG jH kH a0 th1 jB)∧D=Cls w F (tcJ kA kN kK kG kB kH A67 a0 th1 gv7 gl8 gv9 kO)∧qc7 kK a1 x6 gl8 kO jP jF jB go1 yG jH=some r) ?_ ?_
   ·refine aZ mixed (by kernel_rfl) (fun _ hw=>hw.drew) fun hC=>(U.r 1 O<|fQ O (aQ O yR)<|fQ O (aa wn O)<|fQ O (al (q:=0) (si:=3) (ps:=3) (j:=0) (X:=[(tc kN a1)]) qbv O O O O O O)<|U.r 1 O<|fQ O (aQ O jZ)<|fQ O (aa z6 O)<|fQ O (al (q:=5) (si:=4) (ps:=4) (j:=0) (X:=[(td kN x6)]) qbv O O O O O O)<|bi1 h fun b41 e42 h=>fQ O (yf qcS O fun w' hw=>qmV e42 (As.at_ (hw.get (i:=1) O)) (As.at_ (hw.get (i:=7) O))) ?_)
    rcases b41 with _|_
    ·replace h:=qU h
     refine U.r 1 O<|fQ O (aQ O jZ)<|fQ O (aa wn O)<|fQ O (al (q:=5) (si:=3) (ps:=3) (j:=0) (X:=[(tc kN x6)]) qbv O O O O O O)<|U.r 1 O<|fQ O (aQ O yR)<|fQ O (aa z6 O)<|fQ O (al (q:=0) (si:=4) (ps:=4) (j:=0) (X:=[(td kN a1)]) qbv O O O O O O)<|bi1 h fun b43 e44 h=>fQ O (yf qcS O fun w' hw=>qmV e44 (As.at_ (hw.get (i:=6) O)) (As.at_ (hw.get (i:=2) O))) ?_
     rcases b43 with _|_
     ·replace h:=qU h
      exact U.r 2 O<|bo<|az (D:=Cls w F (tcI kA kN kK x6::tac kA x6 th7 kN::tbh kN x6 th7::tba kN x6 th7::tbk th7::tb kG kB kA kH A67 a0 th1 gv7 gl8 gv9 kO)) (fun _ hw=>hw.arShut (hs':=(tbI a1 x6)) [0,1,2,3,4,5,6,7,8,9,10,11,12,13,14,15,16] yR (by decide) O (fun _=>List.mem_cons)<|qdw (qw c9) yR jZ List.not_mem_nil)<|az (D:=Cls w F<|tcJ kA kN kK kG kB kH A67 a0 th1 gv7 gl8 gv9 kO) (asI [1,2,3,4,0,5,6,7,8,9,10,11,12] jZ O)<|ay ⟨false,false,O,O,h⟩ hI
     replace h:=qT h
     exact U.r 2 O<|bo<|az (D:=Cls w F (tcI kA kN kK x6::tac kA x6 th7 kN::tbh kN x6 th7::tba kN x6 th7::tbk th7::tb kG kB kA kH A67 a0 th1 gv7 gl8 gv9 kO)) (fun _ hw=>hw.arShut (hs':=(tbI a1 x6)) [0,1,2,3,4,5,6,7,8,9,10,11,12,13,14,15,16] yR (by decide) O (fun _=>List.mem_cons)<|qdw (qw c9) yR jZ List.not_mem_nil)<|az (D:=Cls w F<|tcJ kA kN kK kG kB kH A67 a0 th1 gv7 gl8 gv9 kO) (asI [1,2,3,4,0,5,6,7,8,9,10,11,12] jZ O)<|ay ⟨false,true,O,O,h⟩ hI
    replace h:=qT h
    refine U.r 1 O<|fQ O (aQ O jZ)<|fQ O (aa wn O)<|fQ O (al (q:=5) (si:=3) (ps:=3) (j:=0) (X:=[(tc kN x6)]) qbv O O O O O O)<|U.r 1 O<|fQ O (aQ O yR)<|fQ O (aa z6 O)<|fQ O (al (q:=0) (si:=4) (ps:=4) (j:=0) (X:=[(td kN a1)]) qbv O O O O O O)<|bi1 h fun b45 e46 h=>fQ O (yf qcS O fun w' hw=>qmV e46 (As.at_ (hw.get (i:=6) O)) (As.at_ (hw.get (i:=2) O))) ?_
    rcases b45 with _|_
    ·replace h:=qU h
     exact U.r 2 O<|bo<|az (D:=Cls w F (tcI kA kN kK x6::tac kA x6 th7 kN::tbh kN x6 th7::tba kN x6 th7::tbk th7::tb kG kB kA kH A67 a0 th1 gv7 gl8 gv9 kO)) (fun _ hw=>hw.arShut (hs':=(tbI a1 x6)) [0,1,2,3,4,5,6,7,8,9,10,11,12,13,14,15,16] yR (by decide) O (fun _=>List.mem_cons)<|qdw (qw c9) yR jZ List.not_mem_nil)<|az (D:=Cls w F<|tcJ kA kN kK kG kB kH A67 a0 th1 gv7 gl8 gv9 kO) (asI [1,2,3,4,0,5,6,7,8,9,10,11,12] jZ O)<|ay ⟨true,false,O,O,h⟩ hI
    replace h:=qT h
    exact U.r 2 O<|bo<|az (D:=Cls w F (tcI kA kN kK x6::tac kA x6 th7 kN::tbh kN x6 th7::tba kN x6 th7::tbk th7::tb kG kB kA kH A67 a0 th1 gv7 gl8 gv9 kO)) (fun _ hw=>hw.arShut (hs':=(tbI a1 x6)) [0,1,2,3,4,5,6,7,8,9,10,11,12,13,14,15,16] yR (by decide) O (fun _=>List.mem_cons)<|qdw (qw c9) yR jZ List.not_mem_nil)<|az (D:=Cls w F<|tcJ kA kN kK kG kB kH A67 a0 th1 gv7 gl8 gv9 kO) (asI [1,2,3,4,0,5,6,7,8,9,10,11,12] jZ O)<|ay ⟨true,true,O,O,h⟩ hI
   rintro _ _ ⟨yG,jH,rfl,rfl,h⟩
   rw[qc7]at h
   refine ar (fun gs D=>gs=(tct kA a1 gv7 gv9 jF jP x6 yG jH kH a0 th1 jB)∧D=Cls w F (tcJ kA kN kK kG kB kH A67 a0 th1 gv7 gl8 gv9 kO)∧qhW yG gl8 x6 jH kO jP jF jB go1=some r) ?_ ?_
   ·refine aE<|bi1 h fun xM eth30 h=>bC (D:=Cls w F (tac kA a1 xM kN::tbh kN a1 xM::tba kN a1 xM::tbk xM::tcI kA kN kK a1::tb kG kB kA kH A67 a0 th1 gv7 gl8 gv9 kO)) (aoI 0 O eth30)<|bi1 h fun zK eth31 h=>bC (D:=Cls w F (tac kA x6 zK kN::tbh kN x6 zK::tba kN x6 zK::tbk zK::yV kA kN kK (tbI x6 a1)::tac kA a1 xM kN::tbh kN a1 xM::tba kN a1 xM::tbk xM::tb kG kB kA kH A67 a0 th1 gv7 gl8 gv9 kO)) (fun _ hw=>hw.arOpen (p:=4) O eth31 (qdw (qw c9).symm eth31 eth30 List.not_mem_nil))<|aZ mixed (by kernel_rfl) (fun _ hw=>hw.drew) fun hC=>(eG hC 21 (fun gs=>∃gb23,gs=[(1,VP kA a1),(4,gv7),(5,gv9),(7,.bool jF),(8,.bool jP),(10,VP kA x6),(11,.bool yG),(12,.bool jH),(16,(td kH a0)),(17,tbB th1),(18,taB jB),(69,.bool gb23)]∧qae jH zK yG gl8 x6 kO jP jF jB go1 gb23=some r) ?_ ?_)
    ·refine U.r 1 O<|fQ O (aQ O eth30)<|fQ O (aa z6 O)<|fQ O (al (q:=5) (si:=4) (ps:=4) (j:=0) (X:=[(td kN a1)]) qbv O O O O O O)<|U.r 1 O<|fQ O (aQ O eth31)<|fQ O (aa z6 O)<|fQ O (al (q:=0) (si:=4) (ps:=4) (j:=0) (X:=[(td kN x6)]) qbv O O O O O O)<|bi1 h fun b35 e36 h=>fQ O (yf qcS O fun w' hw=>qmV e36 (As.at_ (hw.get (i:=7) O)) (As.at_ (hw.get (i:=2) O))) ?_
     rcases b35 with _|_
     ·replace h:=qU h
      refine U.r 1 O<|U.take O<|cT h O (bv O) (fun c37 h=>?_) fun c37 h=>?_
      ·refine U.r 2 O<|U.take O<|fQ O (aQ O eth31)<|U.take O<|fQ O (aa qdS O)<|U.take O<|bi1 h fun _ en38 h=>?_
       obtain⟨_,en38⟩:=qd en38
       refine cT h O (al (q:=0) (si:=7) (ps:=26) (j:=0) (X:=[.bool zK.out_]) ag4 O O O O (by simp[zl,qc,en38]) O) (fun c39 h=>?_) fun c39 h=>?_
       ·exact U.r 5 O<|bo<|cg ⟨true,O,h⟩ ⟨O,O,O,O,O,O,O,O,O,O,O,O,trivial⟩
       refine U.r 1 O<|U.take O<|cT h O (bv O) (fun c40 h=>?_) fun c40 h=>?_
       ·exact U.r 3 O<|bo<|cg ⟨true,O,h⟩ ⟨O,O,O,O,O,O,O,O,O,O,O,O,trivial⟩
       exact U.r 3 O<|bo<|cg ⟨false,O,h⟩ ⟨O,O,O,O,O,O,O,O,O,O,O,O,trivial⟩
      exact U.r 10 O<|bo<|cg ⟨false,O,h⟩ ⟨O,O,O,O,O,O,O,O,O,O,O,O,trivial⟩
     replace h:=qT h
     exact U.r 12 O<|bo<|cg ⟨true,O,h⟩ ⟨O,O,O,O,O,O,O,O,O,O,O,O,trivial⟩
    rintro _ ⟨gb23,rfl,h⟩
    rw[qae]at h
    rcases gb23 with _|_
    ·replace h:=qU h
     refine eG hC 8 (fun gs=>∃zW,gs=[(1,VP kA a1),(4,gv7),(5,gv9),(7,.bool jF),(8,.bool jP),(10,VP kA x6),(11,.bool yG),(12,.bool jH),(16,(td kH a0)),(17,tbB th1),(18,taB jB),(70,.bool false),(77,.bool zW)]∧wI yG gl8 x6 jH kO jP jF jB go1 zW=some r) ?_ ?_
     ·refine U.r 1 O<|U.take O<|cT h O (bv O) (fun c32 h=>?_) fun c32 h=>?_
      ·refine U.r 2 O<|U.take O<|fQ O (aQ O eth31)<|U.take O<|fQ O (aa qdT O)<|U.take O<|bi1 h fun _ en33 h=>?_
       obtain⟨_,en33⟩:=qd en33
       refine cT h O (al (q:=0) (si:=6) (ps:=25) (j:=0) (X:=[.bool zK.in_]) ag4 O O O O (by simp[zl,qc,en33]) O) (fun c34 h=>?_) fun c34 h=>?_
       ·exact U.r 1 O<|bo<|cg ⟨true,O,h⟩ ⟨O,O,O,O,O,O,O,O,O,O,O,O,O,trivial⟩
       exact U.r 1 O<|bo<|cg ⟨false,O,h⟩ ⟨O,O,O,O,O,O,O,O,O,O,O,O,O,trivial⟩
      exact U.r 6 O<|bo<|cg ⟨false,O,h⟩ ⟨O,O,O,O,O,O,O,O,O,O,O,O,O,trivial⟩
     rintro _ ⟨zW,rfl,h⟩
     rw[wI]at h
     rcases zW with _|_
     ·replace h:=qU h
      exact U.r 1 O<|bo<|ab<|a6 O<|aN<|az (D:=Cls w F (tcI kA kN kK a1::tac kA a1 xM kN::tbh kN a1 xM::tba kN a1 xM::tbk xM::tb kG kB kA kH A67 a0 th1 gv7 gl8 gv9 kO)) (fun _ hw=>hw.arShut (hs':=(tbI x6 a1)) [0,1,2,3,4,5,6,7,8,9,10,11,12,13,14,15,16] eth31 (by decide) O (fun _=>List.mem_cons) (qdw (qw c9).symm eth31 eth30 List.not_mem_nil))<|az (D:=Cls w F<|tcJ kA kN kK kG kB kH A67 a0 th1 gv7 gl8 gv9 kO) (asI [1,2,3,4,0,5,6,7,8,9,10,11,12] eth30 O)<|ay ⟨O,O,h⟩ hI
     replace h:=qT h
     cases h
     exact U.r 1 O<|bo<|ab<|aX O<|sr<|L.r 3 O<|cjc<|bW<|cjk<|az (D:=Cls w F (tcI kA kN kK a1::tac kA a1 xM kN::tbh kN a1 xM::tba kN a1 xM::tbk xM::tb kG kB kA kH A67 a0 th1 gv7 gl8 gv9 kO)) (fun _ hw=>hw.arShut (hs':=(tbI x6 a1)) [0,1,2,3,4,5,6,7,8,9,10,11,12,13,14,15,16] eth31 (by decide) O (fun _=>List.mem_cons) (qdw (qw c9).symm eth31 eth30 List.not_mem_nil))<|az (D:=Cls w F<|tcJ kA kN kK kG kB kH A67 a0 th1 gv7 gl8 gv9 kO) (asI [1,2,3,4,0,5,6,7,8,9,10,11,12] eth30 O)<|az (D:=Cls w F [tar kG kB kA kH A67,tC kA kN kK,tq gv7 gl8 kA,tq gv9 kO kA]) (asI [2,8,7,3,4,1,0,5,6] kR O)<|rT3 fun w1 hw=>⟨_,_,O,⟨_,_,O,O⟩,((hw.nilSl 127 1).nilSl 127 1).sel [2,3,1,0] (by decide) O⟩
    replace h:=qT h
    cases h
    exact U.r 9 O<|bo<|ab<|aX O<|sr<|L.r 3 O<|cjc<|bW<|cjk<|az (D:=Cls w F (tcI kA kN kK a1::tac kA a1 xM kN::tbh kN a1 xM::tba kN a1 xM::tbk xM::tb kG kB kA kH A67 a0 th1 gv7 gl8 gv9 kO)) (fun _ hw=>hw.arShut (hs':=(tbI x6 a1)) [0,1,2,3,4,5,6,7,8,9,10,11,12,13,14,15,16] eth31 (by decide) O (fun _=>List.mem_cons) (qdw (qw c9).symm eth31 eth30 List.not_mem_nil))<|az (D:=Cls w F<|tcJ kA kN kK kG kB kH A67 a0 th1 gv7 gl8 gv9 kO) (asI [1,2,3,4,0,5,6,7,8,9,10,11,12] eth30 O)<|az (D:=Cls w F [tar kG kB kA kH A67,tC kA kN kK,tq gv7 gl8 kA,tq gv9 kO kA]) (asI [2,8,7,3,4,1,0,5,6] kR O)<|rT3 fun w1 hw=>⟨_,_,O,⟨_,_,O,O⟩,((hw.nilSl 127 1).nilSl 127 1).sel [2,3,1,0] (by decide) O⟩
   rintro _ _ ⟨rfl,rfl,h⟩
   rw[qhW]at h
   refine ar (fun gs D=>∃yO jA,gs=(tct kA a1 yO gv9 jF jP x6 yG jH kH a0 th1 jB)∧D=Cls w F (tcJ kA kN kK kG kB kH A67 a0 th1 yO jA gv9 kO)∧qhV jH kO x6 jP jF jB go1 yG jA=some r) ?_ ?_
   ·refine sr<|ibL h (bv O) (fun c26 h=>?_) fun c26 h=>?_
    ·exact cjg<|ah<|L.r 2 O<|aI O Tryz.underlying65 qan O (qL _ _) fun b27=>bc (i:=6) (g:=(PR kA)) (l:=gl8) (more:=[x6]) h O Tryz.underlying65 qan O O O (aG 0 O) (jt _) O fun v28 l29 el29 h=>L.r 1 O<|ae<|ay ⟨v28,l29,O,O,h⟩<|sI [2,3,4,5,6,0,7,8,9]
    exact cja<|ay ⟨gv7,gl8,O,O,h⟩ hI
   rintro _ _ ⟨yO,jA,rfl,rfl,h⟩
   rw[qhV]at h
   refine ar (fun gs D=>∃xU jE,gs=[(1,VP kA a1),(4,yO),(5,xU),(7,.bool jF),(8,.bool jP),(11,.bool yG),(12,.bool jH),(16,(td kH a0)),(17,tbB th1),(18,taB jB)]∧D=Cls w F (tcJ kA kN kK kG kB kH A67 a0 th1 yO jA xU jE)∧qgg jP jF jB go1 jA jH yG jE=some r) ?_ ?_
   ·refine sr<|ibL h (bv O) (fun c22 h=>?_) fun c22 h=>?_
    ·exact cjg<|ah<|L.r 2 O<|aI O Tryz.underlying65 qan O (qL _ _) fun b23=>bc (i:=7) (g:=(PR kA)) (l:=kO) (more:=[x6]) h O Tryz.underlying65 qan O O O (aG 0 O) (jt _) O fun v24 l25 el25 h=>L.r 1 O<|ae<|ay ⟨v24,l25,O,O,h⟩<|sI [2,3,4,5,6,7,0,8,9]
    exact cja<|ay ⟨gv9,kO,O,O,h⟩ hI
   rintro _ _ ⟨xU,jE,rfl,rfl,h⟩
   rw[qgg]at h
   refine ah<|bd 4 (fun gs D=>∃xZ,gs=[(1,VP kA a1),(4,yO),(5,xU),(7,.bool jF),(12,.bool jH),(16,(td kH a0)),(17,tbB th1),(18,taB jB),(92,.bool xZ)]∧D=Cls w F (tcJ kA kN kK kG kB kH A67 a0 th1 yO jA xU jE)∧qgf jF jB go1 jA jE jH xZ=some r) ?_ ?_
   ·refine ibL h (bv O) (fun c20 h=>?_) fun c20 h=>?_
    ·exact L.r 3 O<|ae<|ay ⟨true,O,O,h⟩ hI
    refine L.r 1 O<|tkL<|ibL h (bv O) (fun c21 h=>?_) fun c21 h=>?_
    ·exact L.r 1 O<|ae<|ay ⟨true,O,O,h⟩ hI
    exact L.r 1 O<|ae<|ay ⟨false,O,O,h⟩ hI
   rintro _ _ ⟨xZ,rfl,rfl,h⟩
   rw[qgf]at h
   rcases xZ with _|_
   ·replace h:=qU h
    refine bd 4 (fun gs D=>∃gb21,gs=[(1,VP kA a1),(4,yO),(5,xU),(16,(td kH a0)),(17,tbB th1),(18,taB jB),(92,.bool false),(96,.bool gb21)]∧D=Cls w F (tcJ kA kN kK kG kB kH A67 a0 th1 yO jA xU jE)∧qge jB go1 jA jE gb21=some r) ?_ ?_
    ·refine ibL h (bv O) (fun c14 h=>?_) fun c14 h=>?_
     ·exact L.r 3 O<|ae<|ay ⟨true,O,O,h⟩ hI
     refine L.r 1 O<|tkL<|ibL h (bv O) (fun c15 h=>?_) fun c15 h=>?_
     ·exact L.r 1 O<|ae<|ay ⟨true,O,O,h⟩ hI
     exact L.r 1 O<|ae<|ay ⟨false,O,O,h⟩ hI
    rintro _ _ ⟨gb21,rfl,rfl,h⟩
    rw[qge]at h
    rcases gb21 with _|_
    ·replace h:=qU h
     exact L.r 2 O<|ae<|cjj<|mA h fun x12 ex12 h=>(L.r 1 O<|ae<|bi ⟨yO,jA,xU,jE,false,false,x12,O,O,by rw[hg1];exact h⟩<|sI [1,0,2,3,4,5,6,7,8])
    replace h:=qT h
    exact L.r 2 O<|ae<|cjj<|mA h fun x13 ex13 h=>(L.r 1 O<|ae<|bi ⟨yO,jA,xU,jE,true,false,x13,O,O,by rw[hg1];exact h⟩<|sI [1,0,2,3,4,5,6,7,8])
   replace h:=qT h
   refine bd 4 (fun gs D=>∃gb22,gs=[(1,VP kA a1),(4,yO),(5,xU),(16,(td kH a0)),(17,tbB th1),(18,taB jB),(92,.bool true),(96,.bool gb22)]∧D=Cls w F (tcJ kA kN kK kG kB kH A67 a0 th1 yO jA xU jE)∧qgd jB go1 jA jE gb22=some r) ?_ ?_
   ·refine ibL h (bv O) (fun c18 h=>?_) fun c18 h=>?_
    ·exact L.r 3 O<|ae<|ay ⟨true,O,O,h⟩ hI
    refine L.r 1 O<|tkL<|ibL h (bv O) (fun c19 h=>?_) fun c19 h=>?_
    ·exact L.r 1 O<|ae<|ay ⟨true,O,O,h⟩ hI
    exact L.r 1 O<|ae<|ay ⟨false,O,O,h⟩ hI
   rintro _ _ ⟨gb22,rfl,rfl,h⟩
   rw[qgd]at h
   rcases gb22 with _|_
   ·replace h:=qU h
    exact L.r 2 O<|ae<|cjj<|mA h fun x16 ex16 h=>(L.r 1 O<|ae<|bi ⟨yO,jA,xU,jE,false,true,x16,O,O,by rw[hg1];exact h⟩<|sI [1,0,2,3,4,5,6,7,8])
   replace h:=qT h
   exact L.r 2 O<|ae<|cjj<|mA h fun x17 ex17 h=>(L.r 1 O<|ae<|bi ⟨yO,jA,xU,jE,true,true,x17,O,O,by rw[hg1];exact h⟩<|sI [1,0,2,3,4,5,6,7,8])
  exact cjm<|cjd<|ay ⟨gv7,gl8,gv9,kO,jF,jP,O,O,h⟩<|sI [0,1,2,3,4,5,6,8,7]
 rintro _ _ ⟨gv1,gl2,gv3,gl4,gb5,gb6,rfl,rfl,h⟩
 rw[qjr]at h
 refine sr<|L.r 2 O<|ibL h (bv O) (fun c2 h=>?_) fun c2 h=>?_
 ·cases h
  exact L.r 3 O<|yL (bf O)<|L.r 3 O<|cjc<|az (D:=Cls w F [tar kG kB kA kH A67,tC kA kN kK,tq gv1 gl2 kA,tq gv3 gl4 kA]) (asI [2,7,8,3,4,0,1,5,6] kR O)<|rT3 fun w1 hw=>⟨_,_,O,⟨_,_,O,O⟩,hw⟩
 cases h
 exact L.r 3 O<|yL (bf O)<|L.r 3 O<|cjc<|az (D:=Cls w F [tar kG kB kA kH A67,tC kA kN kK,tq gv1 gl2 kA,tq gv3 gl4 kA]) (asI [2,7,8,3,4,0,1,5,6] kR O)<|rT3 fun w1 hw=>⟨_,_,O,⟨_,_,O,O⟩,hw⟩
theorem qoE{a0 u0 w r}(h:qm3 a0=some r)(hA0:At w u0 2 (tcy a0)):Does Tryz.prog 130 [u0] w fun u m=>∃v0,u=v0∧m=[.sl v0 76 2 (tcy r)]:=by
 rw[qm3]at h
 rcases hA0.shape with⟨rfl,hn⟩|⟨ad,cap,rfl,hl,hm⟩
 ·obtain rfl:a0=[]:=by simpa using hn
  replace h:some ([]:List TVersion)=some r:=by simpa [app]using h
  cases h
  exact body (n:=8) Tryz.func130 O O O (Cls.refl w)<|sr<|L.r 1 O<|cjf<|L.r 1 O<|yL (ci Tryz.underlying63 O O)<|cjb<|L.r 1 O<|cjh<|rT fun w1 hw=>⟨_,_,O,⟨_,O,O⟩,(hw.nilSl 76 2)⟩
 refine body (n:=8) Tryz.func130 O O O (Cls.refl w)<|sr<|L.r 1 O<|cjf<|L.r 1 O<|yL (ci Tryz.underlying63 O O)<|cji<|dp O Tryz.underlying63 qj4 fun b1=>L.r 1 O<|bc (i:=0) (g:=TVersion.row) (l:=[]) (more:=a0) h O Tryz.underlying63 qj4 O O O (fun w' hw=>hA0.cls0 hw) (xm _) O fun v2 l3 el3 h=>L.r 1 O<|cjc<|rT fun w1 hw=>?_
 cases h
 exact⟨_,_,O,⟨_,O,O⟩,hw⟩
theorem qoA{a0 a1 a2 u0 u1 w r}(h:qmC a0 a1 a2=some r)(hA0:At w u0 2 (tcy a0))(hA1:At w u1 1 (a1.map I)):Does Tryz.prog 143 [u0,u1,.int .i64 a2] w fun u m=>u=.int .i64 r∧m=[]:=by
 rw[qmC]at h
 refine body (n:=55) Tryz.func143 O O O (Cls.refl w)<|sr<|L.r 1 O<|cjf<|L.r 1 O<|yL (aF (g:=TVersion.row) (l:=a0) Tryz.underlying63 O fun w' hw=>hA0.cls0 hw)<|gtL h (fun c1 h=>?_) fun c1 h=>?_
 ·cases h
  exact L.r 5 O<|cjb<|L.r 1 O<|cjh<|rT d0
 refine L.r 2 O<|tkL<|yL (aF (g:=I) (l:=a1) Tryz.underlying49 O fun w' hw=>hA1.cls0 hw)<|tkL<|gtL h (fun c2 h=>?_) fun c2 h=>?_
 ·cases h
  exact L.r 1 O<|cjb<|L.r 1 O<|cjh<|rT d0
 refine L.r 1 O<|cjl<|sr<|L.r 1 O<|ltL h (fun c3 h=>?_) fun c3 h=>?_
 ·cases h
  exact cjb<|L.r 1 O<|cjh<|rT d0
 refine cji<|L.r 1 O<|ln<|ar (fun gs D=>gs=[(1,u1),(2,.int .i64 a2)]∧D=Cls w [] []∧qfx a1 a2=some r) ?_ ?_
 ·refine sr<|L.r 1 O<|yL (aF (g:=TVersion.row) (l:=a0) Tryz.underlying63 O fun w' hw=>hA0.cls0 hw)<|L.r 1 O<|cjp<|au (fun m gs D=>∃gx2 gx3,gs=[(1,u1),(2,.int .i64 a2),(7,.int .i64 gx2),(22,u0),(23,.int .i64 (a0.length:Int)),(24,.int .i64 gx3)]∧D=Cls w [] []∧vK a0 a2 a1 m gx2 gx3=some r) ⟨0,0,O,O,h⟩ ⟨O,O,O,O,O,O,trivial⟩ hI ?_
  rintro m _ _ ⟨gx2,gx3,rfl,rfl,h⟩
  rcases m with _|m
  ·rw[vK]at h;cases h
  rw[vK]at h
  generalize hg2:vK a0 a2 a1 m=go2 at h
  rw[qb1]at h
  refine sr<|ltL h (fun c9 h=>?_) fun c9 h=>?_
  ·refine cje<|mL (fun _=>el u0 (gx3.toNat*2)) h (ap (g:=TVersion.row) (l:=a0) Tryz.underlying63 qaC O O fun w' hw=>hA0.cls0 hw) fun x10 ex10 h=>(yL (bR (r:=(tcs x10)) qlw qaC O (fun w' hw=>hA0.cls0 hw) (ql ex10) O)<|L.alloc O qm7 fun b11=>svL 0 (tcs x10) qaC O O O<|cjf<|yF kb O<|yP 0 ag3 O O O<|L.r 1 O<|iL h (cy O O) (fun c12 h=>?_) fun c12 h=>?_)
   ·cases h
    exact L.r 6 O<|cjb<|L.r 1 O<|cjh<|cjk<|rT<|d0s []
   refine L.r 1 O<|tkL<|yF kb O<|tkL<|yP 0 ag3 O O O<|L.r 1 O<|tkL<|gtL h (fun c13 h=>?_) fun c13 h=>?_
   ·cases h
    exact L.r 1 O<|cjb<|L.r 1 O<|cjh<|cjk<|rT<|d0s []
   exact L.r 1 O<|cja<|ab<|ah<|yF kb O<|yP 0 ag3 O O O<|L.r 1 O<|ae<|cjj<|mA h fun x14 ex14 h=>(L.r 1 O<|ae<|bi ⟨x10.At,x14,O,O,by rw[hg2];exact h⟩<|sI [])
  exact cjm<|cjd<|ay ⟨O,O,h⟩ hI
 rintro _ _ ⟨rfl,rfl,h⟩
 rw[qfx]at h
 refine ar (fun gs D=>gs=[]∧D=Cls w [] []∧qfw=some r) ?_ ?_
 ·refine sr<|L.r 1 O<|yL (aF (g:=I) (l:=a1) Tryz.underlying49 O fun w' hw=>hA1.cls0 hw)<|L.r 1 O<|cjp<|au (fun m gs D=>∃gx1,gs=[(2,.int .i64 a2),(41,u1),(42,.int .i64 (a1.length:Int)),(43,.int .i64 gx1)]∧D=Cls w [] []∧vL a1 a2 m gx1=some r) ⟨0,O,O,h⟩ ⟨O,O,O,O,trivial⟩ hI ?_
  rintro m _ _ ⟨gx1,rfl,rfl,h⟩
  rcases m with _|m
  ·rw[vL]at h;cases h
  rw[vL]at h
  generalize hg1:vL a1 a2 m=go1 at h
  rw[qb2]at h
  refine sr<|ltL h (fun c4 h=>?_) fun c4 h=>?_
  ·refine cje<|mL (fun _=>el u1<|tbG gx1) h (ap (g:=I) (l:=a1) Tryz.underlying49 sz3 O O fun w' hw=>hA1.cls0 hw) fun x5 ex5 h=>(yL (aB (u:=.int .i64 x5) ag3 O (fun w' hw=>hA1.cls0 hw)<|ql ex5)<|L.r 1 O<|ae<|ab<|sr<|L.r 1 O<|ltL h (fun c6 h=>?_) fun c6 h=>?_)
   ·cases h
    exact L.r 5 O<|cjb<|L.r 1 O<|cjc<|cjk<|rT d0
   refine L.r 3 O<|tkL<|gtL h (fun c7 h=>?_) fun c7 h=>?_
   ·cases h
    exact L.r 1 O<|cjb<|L.r 1 O<|cjc<|cjk<|rT d0
   exact L.r 1 O<|cja<|cjj<|mA h fun x8 ex8 h=>(L.r 1 O<|ae<|bi ⟨x8,O,O,by rw[hg1];exact h⟩ hI)
  exact cjm<|cjd<|bB ⟨O,O,h⟩ trivial hI
 rintro _ _ ⟨rfl,rfl,h⟩
 rw[qfw]at h
 cases h
 exact sr<|L.r 1 O<|cjc<|rT d0
theorem qn2{a0 u0 w r}(h:qlG a0=some r)(hA0:At w u0 1 (a0.map I)):Does Tryz.prog 105 [u0] w fun u m=>∃v0,u=v0∧m=[tau v0 r]:=by
 rw[qlG]at h
 rcases hA0.shape with⟨rfl,hn⟩|⟨ad,cap,rfl,hl,hm⟩
 ·obtain rfl:a0=[]:=by simpa using hn
  replace h:some ([]:List Int)=some r:=by simpa [app]using h
  cases h
  exact body (n:=8) Tryz.func105 O O O (Cls.refl w)<|sr<|L.r 1 O<|cjf<|L.r 1 O<|yL (ci Tryz.underlying49 O O)<|cjb<|L.r 1 O<|cjh<|rT fun w1 hw=>⟨_,_,O,⟨_,O,O⟩,(hw.nilSl 3 1)⟩
 refine body (n:=8) Tryz.func105 O O O (Cls.refl w)<|sr<|L.r 1 O<|cjf<|L.r 1 O<|yL (ci Tryz.underlying49 O O)<|cji<|dp O Tryz.underlying49 eL3 fun b1=>L.r 1 O<|bc (i:=0) (g:=I) (l:=[]) (more:=a0) h O Tryz.underlying49 eL3 O O O (fun w' hw=>hA0.cls0 hw) (zb _) O fun v2 l3 el3 h=>L.r 1 O<|cjc<|rT fun w1 hw=>?_
 cases h
 exact⟨_,_,O,⟨_,O,O⟩,hw⟩
theorem qoX{a0 a1 w r}(h:qn5 a0 a1=some r):Does Tryz.prog 161 [.agg #[.int .i64 a0.At,st a0.Text],.int .i64 a1] w fun u m=>u=.int .i64 r∧m=[]:=by
 rw[qn5]at h
 refine body (n:=9) Tryz.func161 O O O (Cls.refl w)<|sr<|bV O O fun b1=>L.r 1 O<|cjf<|yF kb O<|yP 0 ag3 O O O<|L.r 1 O<|iL h (cy O O) (fun c2 h=>?_) fun c2 h=>?_
 ·cases h
  exact cjb<|L.r 1 O<|cjh<|rT<|d0s []
 cases h
 exact cji<|L.r 1 O<|cjc<|rT<|d0s []
theorem qoz{a0 a1 u0 w r}(h:qm2 a0 a1=some r)(hA0:At w u0 2 (tcy a0)):Does Tryz.prog 144 [u0,.int .i64 a1] w fun u m=>u=.int .i64 r∧m=[]:=by
 rw[qm2]at h
 refine body (n:=15) Tryz.func144 O O O (Cls.refl w)<|sr<|L.r 1 O<|nsr<|L.r 2 O<|bQ (fun v D=>∃gx1 gb2,v=.tuple #[.int .i64 gx1,.bool gb2]∧D=Cls w [] []∧qaT gx1 gb2=some r) O (by kernel_rfl) O Tryz.func160 O O O ?_ ?_
 ·refine sr<|L.r 2 O<|nsr<|L.r 1 O<|yL (aF (g:=TVersion.row) (l:=a0) Tryz.underlying63 O fun w' hw=>hA0.cls0 hw)<|L.r 1 O<|nsr<|L.r 3 O<|ln<|ar (fun gs D=>∃gx3,gs=[(0,u0),(1,.int .i64 a1),(2,.func (.func 161) #[] #[]),(8,.int .i64 (a0.length:Int)),(9,.int .i64 gx3)]∧D=Cls w [] []∧qfv a0 a1 gx3=some r) ?_ ?_
  ·refine W.block<|au (fun m gs D=>∃gx5 gx6,gs=[(0,u0),(1,.int .i64 a1),(2,.func (.func 161) #[] #[]),(8,.int .i64 (a0.length:Int)),(9,.int .i64 gx5),(10,.int .i64 gx6)]∧D=Cls w [] []∧vJ a0 a1 m gx5 gx6=some r) ⟨0,(a0.length:Int),O,O,h⟩ ⟨O,O,O,O,O,O,trivial⟩ hI ?_
   rintro m _ _ ⟨gx5,gx6,rfl,rfl,h⟩
   rcases m with _|m
   ·rw[vJ]at h;cases h
   rw[vJ]at h
   generalize hg1:vJ a0 a1 m=go1 at h
   rw[qb0]at h
   refine aE<|sr<|L.r 2 O<|ltL h (fun c6 h=>?_) fun c6 h=>?_
   ·refine cjg<|aN<|ab<|W.block<|sr<|L.r 2 O<|mA h fun x7 ex7 h=>(yL (a7 Tryz.underlying3 Tryz.underlying94 O)<|mL (fun x8=>.int .u64 x8) h (cJ O O) fun x8 ex8 h=>(yL (a7 Tryz.underlying94 Tryz.underlying3 O)<|L.r 1 O<|nsr<|L.r 3 O<|mL (fun _=>el u0 ((IntKind.wrap .i64 x8).toNat*2)) h (ap (g:=TVersion.row) (l:=a0) Tryz.underlying63 qaC O O fun w' hw=>hA0.cls0 hw) fun x9 ex9 h=>(yL (bR (r:=(tcs x9)) qlw qaC O (fun w' hw=>hA0.cls0 hw) (ql ex9) O)<|L.r 1 O<|bu (fun v D=>∃gx7,v=.int .i64 gx7∧D=Cls w [] []∧qdp x8 go1 gx6 gx5 gx7=some r) O (by kernel_rfl) O O Tryz.func161 O O O ?_ ?_)))
    ·refine sr<|bV O O fun b12=>L.r 1 O<|cjf<|yF kb O<|yP 0 ag3 O O O<|L.r 1 O<|iL h (cy O O) (fun c13 h=>?_) fun c13 h=>?_
     ·exact cjb<|L.r 1 O<|cjh<|bb O O fun w1 hw=>⟨_,_,O,⟨(-1),O,O,h⟩,hw.s []⟩
     exact cji<|L.r 1 O<|cjc<|bb O O fun w1 hw=>⟨_,_,O,⟨1,O,O,h⟩,hw.s []⟩
    rintro _ _ ⟨gx7,rfl,rfl,h⟩
    rw[qdp]at h
    refine ltL h (fun c10 h=>?_) fun c10 h=>?_
    ·exact cjg<|ah<|L.r 1 O<|mA h fun x11 ex11 h=>(L.r 1 O<|ae<|aq<|bi ⟨x11,gx6,O,O,by rw[hg1];exact h⟩ hI)
    exact ln<|a6 O<|ah<|L.r 2 O<|ae<|aq<|bi ⟨gx5,IntKind.wrap .i64 x8,O,O,by rw[hg1];exact h⟩ hI
   exact ln<|cjd<|ay ⟨gx5,O,O,h⟩ hI
  rintro _ _ ⟨gx3,rfl,rfl,h⟩
  rw[qfv]at h
  refine sr<|L.r 3 O<|ltL h (fun c2 h=>?_) fun c2 h=>?_
  ·refine L.r 4 O<|tkL<|mL (fun _=>el u0 (gx3.toNat*2)) h (ap (g:=TVersion.row) (l:=a0) Tryz.underlying63 qaC O O fun w' hw=>hA0.cls0 hw) fun x3 ex3 h=>(tkL<|yL (bR (r:=(tcs x3)) qlw qaC O (fun w' hw=>hA0.cls0 hw) (ql ex3) O)<|L.r 1 O<|tkL<|bu (fun v D=>∃gx4,v=.int .i64 gx4∧D=Cls w [] []∧qaS gx3 gx4=some r) O (by kernel_rfl) O O Tryz.func161 O O O ?_ ?_)
   ·refine sr<|bV O O fun b4=>L.r 1 O<|cjf<|yF kb O<|yP 0 ag3 O O O<|L.r 1 O<|iL h (cy O O) (fun c5 h=>?_) fun c5 h=>?_
    ·exact cjb<|L.r 1 O<|cjh<|bb O O fun w1 hw=>⟨_,_,O,⟨(-1),O,O,h⟩,hw.s []⟩
    exact cji<|L.r 1 O<|cjc<|bb O O fun w1 hw=>⟨_,_,O,⟨1,O,O,h⟩,hw.s []⟩
   rintro _ _ ⟨gx4,rfl,rfl,h⟩
   rw[qaS]at h
   exact tkL<|yL (dy O O)<|L.r 3 O<|cjc<|dW O O O fun w1 hw=>⟨_,_,O,⟨gx3,decide (gx4=0),O,O,h⟩,hw⟩
  exact L.r 12 O<|cjc<|dW O O O fun w1 hw=>⟨_,_,O,⟨gx3,false,O,O,h⟩,hw⟩
 rintro _ _ ⟨gx1,gb2,rfl,rfl,h⟩
 rw[qaT]at h
 refine L.r 5 O<|nsr<|L.r 1 O<|mI h (bj O O) fun x1 ex1 h=>(L.r 1 O<|cjc<|rT fun w1 hw=>?_)
 cases h
 exact⟨_,_,O,⟨O,O⟩,hw⟩
theorem qoD{a0 a1 a2 u0 u1 w r}(h:qmD a0 a1 a2=some r)(hA0:At w u0 2 (tcy a0))(hA1:At w u1 1 (a1.map I)):Does Tryz.prog 131 [u0,u1,.int .i64 a2] w fun u m=>∃v0,u=.tuple #[v0,.int .i64 r.2]∧m=[.sl v0 76 2 (r.1.map TVersion.row)]:=by
 rw[qmD]at h
 refine body (n:=57) Tryz.func131 O O O (Cls.refl w)<|sr<|L.r 2 O<|cjf<|L.r 3 O<|bi1 h fun x1 e2 h=>yL (ye O fun w' hw=>qoA e2 (hA0.cls0 hw) (hA1.cls0 hw))<|L.r 1 O<|nsr<|L.r 1 O<|neL h (fun c3 h=>?_) fun c3 h=>?_
 ·cases h
  exact cjb<|L.r 3 O<|cjh<|rT2 fun w1 hw=>⟨_,_,O,⟨_,O,O⟩,(hw.nilSl 76 2)⟩
 refine cji<|cU O fun b4=>L.r 1 O<|ln<|ar (fun gs D=>∃gl1,gs=[(0,u0),(9,.map (some b4))]∧D=Cls w [] [.mp b4 (zw (VI .i64) gl1)]∧qdq a0 gl1=some r) ?_ ?_
 ·refine sr<|L.r 1 O<|bi1 h fun l14 e16 h=>bZ O (by kernel_rfl) O (fun w' hw=>qn2 e16<|hA1.cls0 hw) ?_
  rintro v15 _ ⟨_,rfl,rfl⟩
  refine L.r 1 O<|aI O Tryz.underlying49 eL3 O O fun b17=>bc (i:=1) (g:=I) (l:=l14) (more:=[a2]) h O Tryz.underlying49 eL3 O O O (aG 0 O) (zb _) O fun v18 l19 el19 h=>yL (aF (g:=I) (l:=l19) Tryz.underlying49 O<|aG 0 O)<|L.r 1 O<|cjp<|au (fun m gs D=>∃gx7 gl8,gs=[(0,u0),(9,.map (some b4)),(27,v18),(28,.int .i64 (l19.length:Int)),(29,.int .i64 gx7)]∧D=Cls w [] [.mp b4 (zw (VI .i64) gl8),tau v18 l19]∧vS l19 a0 m gx7 gl8=some r) ⟨0,[],O,O,h⟩ ⟨O,O,O,O,O,trivial⟩ (sI [2,0]) ?_
  rintro m _ _ ⟨gx7,gl8,rfl,rfl,h⟩
  rcases m with _|m
  ·rw[vS]at h;cases h
  rw[vS]at h
  generalize hg2:vS l19 a0 m=go2 at h
  rw[qb6]at h
  refine sr<|ltL h (fun c20 h=>?_) fun c20 h=>?_
  ·refine cje<|mL (fun _=>el v18<|tbG gx7) h (ap (g:=I) (l:=l19) Tryz.underlying49 sz3 O O<|aG 1 O) fun x21 ex21 h=>(yL (aB (u:=.int .i64 x21) ag3 O (aG 1 O)<|ql ex21)<|L.r 1 O<|ae<|ab<|ah<|L.r 3 O<|bi1 h fun x22 e23 h=>yL (ye O fun w' hw=>qoz e23 (hA0.cls0 hw))<|yL (cS (i:=0) (g:=(VI .i64)) (lm:=gl8) (z0:=0) Tryz.underlying209 Tryz.underlying3 (by kernel_rfl) O O O O)<|mA h fun x24 ex24 h=>(dn (i:=0) (g:=(VI .i64)) (lm:=gl8) (v0:=x24) Tryz.underlying209 Tryz.underlying3 O O O O<|bi1 h fun l25 el25 h=>?_))
   obtain rfl:=Option.some.inj el25
   exact ae<|cjj<|mA h fun x26 ex26 h=>(L.r 1 O<|ae<|bi ⟨x26,wM gl8 x22 x24,O,O,by rw[hg2];exact h⟩ hI)
  exact cjm<|cjd<|ay ⟨gl8,O,O,h⟩<|sI [0]
 rintro _ _ ⟨gl1,rfl,rfl,h⟩
 rw[qdq]at h
 refine sr<|L.r 1 O<|ln<|ar (fun gs D=>∃gv2 gl3,gs=[(12,gv2)]∧D=Cls w [] [.sl gv2 76 2 (tcy gl3)]∧qfz gl3=some r) ?_ ?_
 ·refine sr<|L.r 1 O<|yL (aF (g:=TVersion.row) (l:=a0) Tryz.underlying63 O fun w' hw=>hA0.cls0 hw)<|L.r 1 O<|cjp<|W.nilSl 76 2<|au (fun m gs D=>∃gv4 gl5 gx6,gs=[(9,.map (some b4)),(12,gv4),(40,u0),(41,.int .i64 (a0.length:Int)),(42,.int .i64 gx6)]∧D=Cls w [] [.mp b4 (zw (VI .i64) gl1),.sl gv4 76 2 (tcy gl5)]∧vT a0 gl1 m gl5 gx6=some r) ⟨tO,[],0,O,O,h⟩ ⟨O,O,O,O,O,trivial⟩ (sI [1,0]) ?_
  rintro m _ _ ⟨gv4,gl5,gx6,rfl,rfl,h⟩
  rcases m with _|m
  ·rw[vT]at h;cases h
  rw[vT]at h
  generalize hg1:vT a0 gl1 m=go1 at h
  rw[qb7]at h
  refine sr<|ltL h (fun c5 h=>?_) fun c5 h=>?_
  ·refine cje<|L.r 1 O<|mL (fun _=>el u0 (gx6.toNat*2)) h (ap (g:=TVersion.row) (l:=a0) Tryz.underlying63 qaC O O fun w' hw=>hA0.cls0 hw) fun x6 ex6 h=>(yL (bR (r:=(tcs x6)) qlw qaC O (fun w' hw=>hA0.cls0 hw) (ql ex6) O)<|L.alloc O qm7 fun b7=>L.r 1 O<|svL 0 (tcs x6) qaC O O O<|nsr<|L.r 2 O<|yL (cS (i:=1) (g:=(VI .i64)) (lm:=gl1) (z0:=0) Tryz.underlying209 Tryz.underlying3 (by kernel_rfl) O O O O)<|gtL h (fun c8 h=>?_) fun c8 h=>?_)
   ·exact cjg<|ah<|L.r 1 O<|yL (bp (i:=0) qlw qaC O O O)<|cm O Tryz.underlying63 qj4 O O O fun b9=>bc (i:=3) (g:=TVersion.row) (l:=gl5) (more:=[x6]) h O Tryz.underlying63 qj4 O O O (aG 0 O) (xm _) O fun v10 l11 el11 h=>L.r 1 O<|ae<|cjj<|mA h fun x12 ex12 h=>(L.r 1 O<|ae<|bi ⟨v10,l11,x12,O,O,by rw[hg1];exact h⟩<|sI [3,0])
   exact cja<|cjj<|mA h fun x13 ex13 h=>(L.r 1 O<|ae<|bi ⟨gv4,gl5,x13,O,O,by rw[hg1];exact h⟩<|sI [1,2])
  exact cjm<|cjd<|ay ⟨gv4,gl5,O,O,h⟩<|sI [1]
 rintro _ _ ⟨gv2,gl3,rfl,rfl,h⟩
 rw[qfz]at h
 cases h
 exact sr<|L.r 3 O<|cjc<|rT2 fun w1 hw=>⟨_,_,O,⟨_,O,O⟩,hw⟩
theorem W60{a0 a1 A67 kK kG kB kA kH kN w r F}(h:M60 a0 a1 A67 kK=some r)(hc0:Cls w F (tbg kG kB kA kH A67 kN kK) w):qz Tryz.prog 60 [VP kG a0,VP kA a1] F w fun u m=>∃Q67,u=.tuple #[]∧m=[kZ kG kB kA Q67 r [],tC kA kN kK]:=by
 rw[M60]at h
 refine body (n:=79) Tryz.func60 O O O hc0<|bi1 h fun th1 kR h=>bC (D:=tS w F kG a0 kB th1 kH kA A67 kN kK) (aoI 0 O kR)<|sr<|bV O O fun b2=>?_
 rw[show(VP kA a1).cells.toList=[VP kA a1] from by rw[qL]]
 refine nsr<|L.r 2 O<|yNF O kR yv<|bi1 h fun _ en3 h=>?_
 obtain⟨_,en3⟩:=qd en3
 obtain⟨_,en4,h⟩:=qq h
 obtain⟨_,en4⟩:=qd en4
 refine yL (al (q:=1) (si:=6) (ps:=26) (j:=0) (X:=[(tc kH a0)]) qj6 O O O O (by simp[zl,qc,en3,en4]) O)<|yL (cL O)<|bQ (fun v D=>∃gv1 gl2,v=gv1∧D=Cls w F [tao kG kB kA kH A67 a0,tC kA kN kK,.obj (kG a0.toNat) (List.flatten ((zr (tcg kB) (fun _=>[]) th1.logs_).flatten::[.int .i64 th1.half_]::[.int .i64 th1.gen_]::[.bool th1.down_]::[.int .i64 th1.now_]::(zr qn (tk kH a0) th1.items_).flatten::tbx kH a0)) 67,.ss (zs sd0 (fun _=>[]) th1.logs_),.ss (zs ti (tk kH a0) th1.items_),tq gv1 gl2 kA,.sl (td kH a0) 127 1 (th1.over_.map (PR kA))]∧qd5 kK th1 A67 a0 gl2=some r) O (by kernel_rfl) O Tryz.func101 O O O ?_ ?_
 ·refine sr<|L.r 1 O<|nsr<|L.r 2 O<|bQ (fun v D=>∃gx54,v=taB gx54∧D=tcB w F kG kB kA kH A67 a0 kN kK b2 a1 th1∧qaQ kK th1 A67 a0 a1 gx54=some r) O (by kernel_rfl) O Tryz.func97 O O O ?_ ?_
  ·refine sr<|L.r 1 O<|ln<|ar (fun gs D=>gs=[]∧D=tcB w F kG kB kA kH A67 a0 kN kK b2 a1 th1∧qe9 kK th1 A67 a0 a1=some r) ?_ ?_
   ·refine sr<|L.r 1 O<|yL (aF (g:=(PR kA)) (l:=th1.active_) Tryz.underlying65 O<|aG 2 O)<|L.r 1 O<|cjp<|au (fun m gs D=>∃gx60,gs=[(0,(tc kH a0)),(1,.func (.func 102) #[] #[pt b2 0]),(7,.int .i64 (th1.active_.length:Int)),(8,taB gx60)]∧D=tcB w F kG kB kA kH A67 a0 kN kK b2 a1 th1∧vI th1 kK a1 A67 a0 m gx60=some r) ⟨0,O,O,h⟩ ⟨O,O,O,O,trivial⟩ (sI [6,7,0,1,4,5,2,3]) ?_
    rintro m _ _ ⟨gx60,rfl,rfl,h⟩
    rcases m with _|m
    ·rw[vI]at h;cases h
    rw[vI]at h
    generalize hg10:vI th1 kK a1 A67 a0 m=go10 at h
    rw[qbJ]at h
    refine sr<|ltL h (fun c121 h=>?_) fun c121 h=>?_
    ·refine cje<|L.r 2 O<|cjm<|ah<|L.r 3 O<|mL (fun _=>el (tc kH a0)<|tbG gx60) h (ap (g:=(PR kA)) (l:=th1.active_) Tryz.underlying65 jl O O<|aG 6 O) fun x122 ex122 h=>(yL (aB (u:=VP kA x122) wQ O (aG 6 O)<|ql ex122)<|bu (fun v D=>v=.bool (decide (x122=a1))∧D=tcB w F kG kB kA kH A67 a0 kN kK b2 a1 th1∧qe8 x122 a1 kK th1 A67 a0 gx60 go10=some r) O (by kernel_rfl) O O Tryz.func102 O O O ?_ ?_)
     ·exact sr<|L.r 1 O<|nsr<|L.r 1 O<|yP 2 wQ O O O<|bi1 h fun th124 eth124 h=>bi1 h fun xD eth125 h=>yL (cf (p:=1) Tryz.underlying127 qlY O O O eth124 eth125)<|L.r 1 O<|cjc<|bb O O fun w1 hw=>⟨_,_,O,⟨O,O,h⟩,hw⟩
     rintro _ _ ⟨rfl,rfl,h⟩
     rw[qe8]at h
     refine ln<|eS (q:=16) h O (fun h=>?_) fun h=>?_
     ·exact aX O<|sr<|L.r 2 O<|cjc<|cjk<|bb O O fun w1 hw=>⟨_,_,O,⟨gx60,O,O,h⟩,hw⟩
     exact a6 O<|aN<|cjj<|mL (fun x123=>taB x123) h (bh O O) fun x123 ex123 h=>(L.r 1 O<|ae<|bi ⟨x123,O,O,by rw[hg10];exact h⟩ hI)
    exact cjm<|cjd<|bB ⟨O,O,h⟩ trivial hI
   rintro _ _ ⟨rfl,rfl,h⟩
   rw[qe9]at h
   exact sr<|L.r 1 O<|cjc<|bb O O fun w1 hw=>⟨_,_,O,⟨(-1),O,O,h⟩,hw⟩
  rintro _ _ ⟨gx54,rfl,rfl,h⟩
  rw[qaQ]at h
  refine L.r 1 O<|cjf<|L.r 1 O<|eqL h (fun c105 h=>?_) fun c105 h=>?_
  ·exact cjb<|L.r 2 O<|cjh<|bb O O fun w1 hw=>⟨_,_,O,⟨(tc kH a0),th1.active_,O,O,h⟩,hw.s [0,1,3,4,5,6,7]⟩
  refine cja<|ab<|ar (fun gs D=>∃gl55 gx56,gs=[(0,(tc kH a0)),(5,taB gx56)]∧D=Cls w F (tao kG kB kA kH A67 a0::tC kA kN kK::taL kG a0 kB th1 kH gl55 kA)∧qfb kK th1 A67 a0 gl55 gx56=some r) ?_ ?_
  ·refine sr<|L.r 1 O<|mL (fun x110=>taB x110) h (bh O O) fun x110 ex110 h=>(L.r 1 O<|cjp<|au (fun m gs D=>∃xR gx58 gx59,gs=[(0,(tc kH a0)),(1,.func (.func 102) #[] #[pt b2 0]),(5,taB gx58),(6,taB gx59)]∧D=Cls w F (tao kG kB kA kH A67 a0::tC kA kN kK::.obj b2 [VP kA a1] 127::taL kG a0 kB th1 kH xR kA)∧qbC kK a1 th1 A67 a0 m xR gx58 gx59=some r) ⟨th1.active_,gx54,x110,O,O,h⟩ ⟨O,O,O,O,trivial⟩ hI ?_)
   rintro m _ _ ⟨xR,gx58,gx59,rfl,rfl,h⟩
   rcases m with _|m
   ·rw[qbC]at h;cases h
   rw[qbC]at h
   generalize hg9:qbC kK a1 th1 A67 a0 m=go9 at h
   rw[qeZ]at h
   refine aE<|sr<|L.r 2 O<|yL (aF (g:=(PR kA)) (l:=xR) Tryz.underlying65 O<|aG 6 O)<|ltL h (fun c111 h=>?_) fun c111 h=>?_
   ·refine cjg<|aN<|ab<|aE<|W.block<|sr<|L.r 2 O<|mL (fun _=>el (tc kH a0)<|tbG gx59) h (ap (g:=(PR kA)) (l:=xR) Tryz.underlying65 jl O O<|aG 6 O) fun x112 ex112 h=>(yL (aB (u:=VP kA x112) wQ O (aG 6 O)<|ql ex112)<|L.r 1 O<|ae<|ab<|sr<|L.r 2 O<|bu (fun v D=>v=.bool (decide (x112=a1))∧D=Cls w F (tao kG kB kA kH A67 a0::tC kA kN kK::.obj b2 [VP kA a1] 127::taL kG a0 kB th1 kH xR kA)∧qfa x112 a1 xR gx58 gx59 go9=some r) O (by kernel_rfl) O O Tryz.func102 O O O ?_ ?_)
    ·exact sr<|L.r 1 O<|nsr<|L.r 1 O<|yP 2 wQ O O O<|bi1 h fun th119 eth119 h=>bi1 h fun th120 eth120 h=>yL (cf (p:=1) Tryz.underlying127 qlY O O O eth119 eth120)<|L.r 1 O<|cjc<|bb O O fun w1 hw=>⟨_,_,O,⟨O,O,h⟩,hw⟩
    rintro _ _ ⟨rfl,rfl,h⟩
    rw[qfa]at h
    refine ibL h (bf O) (fun c113 h=>?_) fun c113 h=>?_
    ·exact cjb<|L.r 3 O<|mL (fun _=>el (tc kH a0)<|tbG gx58) h (ap (g:=(PR kA)) (l:=xR) Tryz.underlying65 jl O O<|aG 6 O) fun x114 ex114 h=>(bw (q:=6) (row:=(PR kA)) (vs:=[VP kA x112]) (j:=0) (u1:=x112) h jl O O O (by rw[qL]) O (qW (qcZ _ _) zg) O ex114 O O fun l115 el115 h=>nr<|L.r 1 O<|mL (fun x116=>taB x116) h (bh O O) fun x116 ex116 h=>(L.r 1 O<|ae<|cjj<|L.r 1 O<|mL (fun x117=>taB x117) h (bh O O) fun x117 ex117 h=>(L.r 1 O<|ae<|bi ⟨l115,x116,x117,O,O,by rw[hg9];exact h⟩ hI)))
    exact cja<|cjj<|L.r 1 O<|mL (fun x118=>taB x118) h (bh O O) fun x118 ex118 h=>(L.r 1 O<|ae<|bi ⟨xR,gx58,x118,O,O,by rw[hg9];exact h⟩ hI)
   exact ln<|cjd<|ay ⟨xR,gx58,O,O,h⟩<|sI [0,1,3,4,5,6,7]
  rintro _ _ ⟨gl55,gx56,rfl,rfl,h⟩
  rw[qfb]at h
  exact sr<|L.r 2 O<|mL (fun _=>zh (tc kH a0) gx56.toNat 1) h (Y.dropM (g:=(PR kA)) Tryz.underlying65 jl O O<|aG 5 O) fun l106 el106 h=>(du (i:=5) (g:=(PR kA)) (z0:=(-1)) (a:=gx56) h Tryz.underlying65 qan qlK (fun u hu=>((jt _):Plain ([(-1)].map (PR kA))) _ (List.mem_cons_self ..) u hu) O O fun l107 el107 h=>nsr<|L.r 2 O<|bi1 h fun l108 el108 h=>L.cutM (i:=5) (g:=(PR kA)) el108 O Tryz.underlying65 jl O O O fun v109=>(L.r 1 O<|cjc<|bb O O fun w1 hw=>⟨_,_,O,⟨v109,l108,O,O,h⟩,hw⟩))
 rintro gv1 _ ⟨_,gl2,rfl,rfl,h⟩
 rw[qd5]at h
 refine yNF O kR yv<|bP (q:=2) (si:=6) (ps:=26) (j:=0) (X:=[(tc kH a0)]) qmL O O O (fun _ hw=>(As.at_ (hw.get (i:=5) O)).one) O O (by simp[zl,qc,en3,en4]) O<|nsr<|L.r 1 O<|yNF O kR yw<|yL (al (q:=2) (si:=4) (ps:=5) (j:=0) (X:=[.int .i64 th1.now_]) ag3 O O O O (by simp[zl,qc,en3]) O)<|L.alloc O ze3 fun b5=>svL 0 [.int .i64 th1.now_] sz3 O O O<|nsr<|L.r 1 O<|ln<|ar (fun gs D=>∃gv3 gl4 gx5,gs=[(0,VP kG a0),(4,pt b5 0),(5,gv3)]∧D=Cls w F (tao kG kB kA kH A67 a0::tC kA kN kK::.obj b5 (tH gx5) 3::taP kG a0 kB th1 kH gv1 gv3 gl4 gl2 kA)∧qgc th1 kK A67 a0 gl2 gl4 gx5=some r) ?_ ?_
 ·refine sr<|L.r 1 O<|yNF O kR yv<|yL (al (q:=3) (si:=6) (ps:=26) (j:=0) (X:=[gv1]) qj6 O O O O (by simp[zl,qc,en3,en4]) O)<|yL (aF (g:=(PR kA)) (l:=gl2) Tryz.underlying65 O<|aG 6 O)<|L.r 1 O<|cjp<|W.nilSl 3 1<|au (fun m gs D=>∃gv50 gl51 gx52 gx53,gs=[(0,VP kG a0),(4,pt b5 0),(5,gv50),(26,gv1),(27,.int .i64 (gl2.length:Int)),(28,taB gx52)]∧D=Cls w F (tao kG kB kA kH A67 a0::tC kA kN kK::.obj b5 (tH gx53) 3::taP kG a0 kB th1 kH gv1 gv50 gl51 gl2 kA)∧qbD gl2 kK th1 A67 a0 m gl51 gx52 gx53=some r) ⟨tO,[],0,th1.now_,O,O,h⟩ ⟨O,O,O,O,O,O,trivial⟩ (sI [2,3,1,4,5,6,0,7,8]) ?_
  rintro m _ _ ⟨gv50,gl51,gx52,gx53,rfl,rfl,h⟩
  rcases m with _|m
  ·rw[qbD]at h;cases h
  rw[qbD]at h
  generalize hg8:qbD gl2 kK th1 A67 a0 m=go8 at h
  rw[qe0]at h
  refine sr<|ltL h (fun c94 h=>?_) fun c94 h=>?_
  ·exact cje<|mL (fun _=>el gv1<|tbG gx52) h (ap (g:=(PR kA)) (l:=gl2) Tryz.underlying65 jl O O<|aG 7 O) fun x95 ex95 h=>(yL (aB (u:=VP kA x95) wQ O (aG 7 O)<|ql ex95)<|L.r 1 O<|ae<|ab<|aE<|bi1 h fun zX eth96 h=>bC (D:=Cls w F (tT kA x95 zX kN::tay kN x95 zX::tax kN x95 zX::tI zX::tcj kA kN kK x95::tao kG kB kA kH A67 a0::.obj b5 (tH gx53) 3::taP kG a0 kB th1 kH gv1 gv50 gl51 gl2 kA)) (aoI 1 O eth96)<|av (k:=7) (stC [[6]] [Cls w F (tT kA x95 zX kN::tay kN x95 zX::tax kN x95 zX::tI zX::tcj kA kN kK x95::tao kG kB kA kH A67 a0::.obj b5 (tH gx53) 3::taP kG a0 kB th1 kH gv1 gv50 gl51 gl2 kA)]<|Cls w F (tT kA x95 zX kN::tay kN x95 zX::tax kN x95 zX::tI zX::tcj kA kN kK x95::tao kG kB kA kH A67 a0::taP kG a0 kB th1 kH gv1 gv50 gl51 gl2 kA)) O mixed (fun _ hw=>hw.drew) sn<|aA [6] (be hI) fun hz99=>(vQ 0 [6] hz99 O (am (i:=6) ag3 O O O)<|aA [] (ax zF<|sI [0,1,2,3,4,5,7,8,9,10,11,12]) fun hz100=>(vR [1] O<|vN 2 [] O hz100 O eth96<|vQ 3 [] hz100 O (aa qbq O)<|vQ 4 [] hz100 O (al (q:=0) (si:=1) (ps:=1) (j:=0) (X:=[.int .i64 zX.from_]) ag3 O O O O O O)<|vQ 5 [] hz100 O (dg O O)<|vE 6 O<|svL 6 [.int .i64 (min gx53 zX.from_)] sz3 O O O<|ltV (stC [] []<|Cls w F (tT kA x95 zX kN::tay kN x95 zX::tax kN x95 zX::tI zX::tcj kA kN kK x95::tao kG kB kA kH A67 a0::taP kG a0 kB th1 kH gv1 gv50 gl51 gl2 kA)) 6 (aw O sD) (aP<|sI [0,1,2,3,4,5,7,8,9,10,11,12])<|vD<|ab<|ah<|L.r 2 O<|yNF O eth96 qbq<|yL (al (q:=0) (si:=1) (ps:=1) (j:=0) (X:=[.int .i64 zX.from_]) ag3 O O O O O O)<|aI O Tryz.underlying49 eL3 O O fun b101=>bc (i:=11) (g:=I) (l:=gl51) (more:=[zX.from_]) h O Tryz.underlying49 eL3 O O O (aG 0 O) (zb _) O fun v102 l103 el103 h=>L.r 1 O<|ae<|cjj<|mL (fun x104=>taB x104) h (bh O O) fun x104 ex104 h=>(L.r 1 O<|ae<|az (D:=Cls w F [tC kA kN kK,tau v102 l103,.sl (sv b101 1) 3 1 (([zX.from_]).map I),tao kG kB kA kH A67 a0,.obj b5 [.int .i64 (min gx53 zX.from_)] 3,tX kG a0 kB th1 kH gv1,.ss (zs sd0 (fun _=>[]) th1.logs_),.ss (zs ti (tk kH a0) th1.items_),tq gv1 gl2 kA,.sl (td kH a0) 127 1 (th1.over_.map (PR kA))]) (asI [2,3,4,5,6,0,1,7,8,9,10,11,12,13] eth96 O)<|bi ⟨v102,l103,x104,(min gx53 zX.from_),O,O,by rw[hg8];exact h⟩<|sI [3,0,4,5,6,7,1,8,9]))))
  exact cjm<|cjd<|ay ⟨gv50,gl51,gx53,O,O,h⟩ hI
 rintro _ _ ⟨gv3,gl4,gx5,rfl,rfl,h⟩
 rw[qgc]at h
 refine sr<|L.r 2 O<|yNF O kR qcM<|yL (al (q:=3) (si:=7) (ps:=27) (j:=0) (X:=[(td kH a0)]) qj6 O O O O (by simp[zl,qc,en3,en4]) O)<|yL (cL O)<|bQ (fun v D=>∃gv6 gl7,v=gv6∧D=Cls w F [tao kG kB kA kH A67 a0,tC kA kN kK,tX kG a0 kB th1 kH gv1,.ss (zs sd0 (fun _=>[]) th1.logs_),.ss (zs ti (tk kH a0) th1.items_),tau gv3 gl4,tq gv6 gl7 kA,tq gv1 gl2 kA]∧qd4 th1 A67 a0 gl2 gl4 gl7=some r) O (by kernel_rfl) O Tryz.func101 O O O ?_ ?_
 ·refine sr<|L.r 1 O<|nsr<|L.r 2 O<|bQ (fun v D=>∃gx41,v=taB gx41∧D=Cls w F (tao kG kB kA kH A67 a0::tC kA kN kK::taV b5 gx5 kG a0 kB th1 kH gv1 kA gl2 gv3 gl4)∧qgb th1 A67 a0 gl2 gl4 kK gx5 gx41=some r) O (by kernel_rfl) O Tryz.func97 O O O ?_ ?_
  ·refine sr<|L.r 1 O<|ln<|ar (fun gs D=>gs=[]∧D=Cls w F [tao kG kB kA kH A67 a0,tC kA kN kK,.obj b5 (tH gx5) 3,tX kG a0 kB th1 kH gv1,.ss (zs sd0 (fun _=>[]) th1.logs_),.ss (zs ti (tk kH a0) th1.items_),tq gv1 gl2 kA,.sl (td kH a0) 127 1 (th1.over_.map (PR kA)),tau gv3 gl4]∧qfd th1 A67 a0 gl2 gl4 kK gx5=some r) ?_ ?_
   ·refine sr<|L.r 1 O<|yL (aF (g:=(PR kA)) (l:=th1.over_) Tryz.underlying65 O<|aG 8 O)<|L.r 1 O<|cjp<|au (fun m gs D=>∃gx48,gs=[(0,(td kH a0)),(1,.func (.func 103) #[] #[pt b5 0]),(7,tbB th1),(8,taB gx48)]∧D=Cls w F (tao kG kB kA kH A67 a0::tC kA kN kK::taV b5 gx5 kG a0 kB th1 kH gv1 kA gl2 gv3 gl4)∧qbE th1 kK A67 a0 gl2 gl4 gx5 m gx48=some r) ⟨0,O,O,h⟩ ⟨O,O,O,O,trivial⟩ (sI [0,1,2,3,4,5,8,7,6]) ?_
    rintro m _ _ ⟨gx48,rfl,rfl,h⟩
    rcases m with _|m
    ·rw[qbE]at h;cases h
    rw[qbE]at h
    generalize hg7:qbE th1 kK A67 a0 gl2 gl4 gx5 m=go7 at h
    rw[qe1]at h
    refine sr<|ltL h (fun c90 h=>?_) fun c90 h=>?_
    ·refine cje<|L.r 2 O<|cjm<|ah<|L.r 3 O<|mL (fun _=>el (td kH a0)<|tbG gx48) h (ap (g:=(PR kA)) (l:=th1.over_) Tryz.underlying65 jl O O<|aG 6 O) fun x91 ex91 h=>(yL (aB (u:=VP kA x91) wQ O (aG 6 O)<|ql ex91)<|bu (fun v D=>∃gb49,v=.bool gb49∧D=Cls w F (tao kG kB kA kH A67 a0::tC kA kN kK::taV b5 gx5 kG a0 kB th1 kH gv1 kA gl2 gv3 gl4)∧qfc th1 A67 a0 gl2 gl4 kK gx5 gx48 go7 gb49=some r) O (by kernel_rfl) O O Tryz.func103 O O O ?_ ?_)
     ·exact sr<|L.r 1 O<|cjm<|bi1 h fun th93 eth93 h=>bC (D:=Cls w F (tT kA x91 th93 kN::tay kN x91 th93::tax kN x91 th93::tI th93::tcj kA kN kK x91::tao kG kB kA kH A67 a0::taV b5 gx5 kG a0 kB th1 kH gv1 kA gl2 gv3 gl4)) (aoI 1 O eth93)<|aZ mixed (by kernel_rfl) (fun _ hw=>hw.drew) fun hC=>(U.r 1 O<|fQ O (aQ O eth93)<|fQ O (aa qbp O)<|fQ O (al (q:=0) (si:=2) (ps:=2) (j:=0) (X:=[.int .i64 th93.at_]) ag3 O O O O O O)<|fQ O (am (i:=6) ag3 O O O)<|fQ O (cy O O)<|U.r 1 O<|bo<|ab<|bK<|az (D:=Cls w F (tC kA kN kK::tao kG kB kA kH A67 a0::taV b5 gx5 kG a0 kB th1 kH gv1 kA gl2 gv3 gl4)) (asI [0,1,2,3,4,5,6,7,8,9,10,11,12] eth93 O)<|rT fun w1 hw=>⟨_,_,O,⟨decide (th93.at_≤gx5),O,O,h⟩,hw.s [1,0,2,3,4,5,6,7,8]⟩)
     rintro _ _ ⟨gb49,rfl,rfl,h⟩
     rw[qfc]at h
     rcases gb49 with _|_
     ·replace h:=qU h
      exact cja<|cjj<|mA h fun x92 ex92 h=>(L.r 1 O<|ae<|bi ⟨x92,O,O,by rw[hg7];exact h⟩ hI)
     replace h:=qT h
     exact cjb<|L.r 2 O<|cjc<|cjk<|bb O O fun w1 hw=>⟨_,_,O,⟨gx48,O,O,h⟩,hw⟩
    exact cjm<|cjd<|bB ⟨O,O,h⟩ trivial<|sI [0,1,2,3,4,5,7,6,8]
   rintro _ _ ⟨rfl,rfl,h⟩
   rw[qfd]at h
   exact sr<|L.r 1 O<|cjc<|bb O O fun w1 hw=>⟨_,_,O,⟨(-1),O,O,h⟩,hw.s [0,1,2,3,4,5,7,6,8]⟩
  rintro _ _ ⟨gx41,rfl,rfl,h⟩
  rw[qgb]at h
  refine L.r 1 O<|cjf<|L.r 1 O<|eqL h (fun c76 h=>?_) fun c76 h=>?_
  ·exact cjb<|L.r 2 O<|cjh<|bb O O fun w1 hw=>⟨_,_,O,⟨(td kH a0),th1.over_,O,O,h⟩,hw.s [0,1,3,4,5,8,6,7]⟩
  refine cja<|ab<|ar (fun gs D=>∃gl42 gx43,gs=[(0,(td kH a0)),(5,taB gx43)]∧D=Cls w F (tao kG kB kA kH A67 a0::tC kA kN kK::tbd kG a0 kB th1 kH gv1 gl42 kA gl2 gv3 gl4)∧qff th1 A67 a0 gl2 gl4 gl42 gx43=some r) ?_ ?_
  ·refine sr<|L.r 1 O<|mA h fun x81 ex81 h=>(L.r 1 O<|cjp<|au (fun m gs D=>∃xE gx45 gx46,gs=[(0,(td kH a0)),(1,.func (.func 103) #[] #[pt b5 0]),(5,taB gx45),(6,taB gx46)]∧D=Cls w F (tao kG kB kA kH A67 a0::tC kA kN kK::.obj b5 (tH gx5) 3::tbd kG a0 kB th1 kH gv1 xE kA gl2 gv3 gl4)∧qbF kK gx5 th1 A67 a0 gl2 gl4 m xE gx45 gx46=some r) ⟨th1.over_,gx41,x81,O,O,h⟩ ⟨O,O,O,O,trivial⟩ hI ?_)
   rintro m _ _ ⟨xE,gx45,gx46,rfl,rfl,h⟩
   rcases m with _|m
   ·rw[qbF]at h;cases h
   rw[qbF]at h
   generalize hg6:qbF kK gx5 th1 A67 a0 gl2 gl4 m=go6 at h
   rw[qe2]at h
   refine aE<|sr<|L.r 2 O<|yL (aF (g:=(PR kA)) (l:=xE) Tryz.underlying65 O<|aG 6 O)<|ltL h (fun c82 h=>?_) fun c82 h=>?_
   ·refine cjg<|aN<|ab<|aE<|W.block<|sr<|L.r 2 O<|mL (fun _=>el (td kH a0)<|tbG gx46) h (ap (g:=(PR kA)) (l:=xE) Tryz.underlying65 jl O O<|aG 6 O) fun x83 ex83 h=>(yL (aB (u:=VP kA x83) wQ O (aG 6 O)<|ql ex83)<|L.r 1 O<|ae<|ab<|sr<|L.r 2 O<|bu (fun v D=>∃gb47,v=.bool gb47∧D=Cls w F (tao kG kB kA kH A67 a0::tC kA kN kK::.obj b5 (tH gx5) 3::tbd kG a0 kB th1 kH gv1 xE kA gl2 gv3 gl4)∧qfe gx46 go6 xE gx45 x83 gb47=some r) O (by kernel_rfl) O O Tryz.func103 O O O ?_ ?_)
    ·exact sr<|L.r 1 O<|cjm<|bi1 h fun th89 eth89 h=>bC (D:=Cls w F (tT kA x83 th89 kN::tay kN x83 th89::tax kN x83 th89::tI th89::tcj kA kN kK x83::tao kG kB kA kH A67 a0::.obj b5 (tH gx5) 3::tbd kG a0 kB th1 kH gv1 xE kA gl2 gv3 gl4)) (aoI 1 O eth89)<|aZ mixed (by kernel_rfl) (fun _ hw=>hw.drew) fun hC=>(U.r 1 O<|fQ O (aQ O eth89)<|fQ O (aa qbp O)<|fQ O (al (q:=0) (si:=2) (ps:=2) (j:=0) (X:=[.int .i64 th89.at_]) ag3 O O O O O O)<|fQ O (am (i:=6) ag3 O O O)<|fQ O (cy O O)<|U.r 1 O<|bo<|ab<|bK<|az (D:=Cls w F (tC kA kN kK::tao kG kB kA kH A67 a0::.obj b5 (tH gx5) 3::tbd kG a0 kB th1 kH gv1 xE kA gl2 gv3 gl4)) (asI [0,1,2,3,4,5,6,7,8,9,10,11,12] eth89 O)<|rT fun w1 hw=>⟨_,_,O,⟨decide (th89.at_≤gx5),O,O,h⟩,hw.s [1,0,2,3,4,5,6,7,8]⟩)
    rintro _ _ ⟨gb47,rfl,rfl,h⟩
    rw[qfe]at h
    rcases gb47 with _|_
    ·replace h:=qU h
     exact yL (bf O)<|cjb<|L.r 3 O<|mL (fun _=>el (td kH a0)<|tbG gx45) h (ap (g:=(PR kA)) (l:=xE) Tryz.underlying65 jl O O<|aG 6 O) fun x84 ex84 h=>(bw (q:=6) (row:=(PR kA)) (vs:=[VP kA x83]) (j:=0) (u1:=x83) h jl O O O (by rw[qL]) O (qW (qcZ _ _) zg) O ex84 O O fun l85 el85 h=>nr<|L.r 1 O<|mA h fun x86 ex86 h=>(L.r 1 O<|ae<|cjj<|L.r 1 O<|mA h fun x87 ex87 h=>(L.r 1 O<|ae<|bi ⟨l85,x86,x87,O,O,by rw[hg6];exact h⟩ hI)))
    replace h:=qT h
    exact yL (bf O)<|cja<|cjj<|L.r 1 O<|mA h fun x88 ex88 h=>(L.r 1 O<|ae<|bi ⟨xE,gx45,x88,O,O,by rw[hg6];exact h⟩ hI)
   exact ln<|cjd<|ay ⟨xE,gx45,O,O,h⟩<|sI [0,1,3,4,5,6,7,8]
  rintro _ _ ⟨gl42,gx43,rfl,rfl,h⟩
  rw[qff]at h
  exact sr<|L.r 2 O<|mL (fun _=>zh (td kH a0) gx43.toNat 1) h (Y.dropM (g:=(PR kA)) Tryz.underlying65 jl O O<|aG 5 O) fun l77 el77 h=>(du (i:=5) (g:=(PR kA)) (z0:=(-1)) (a:=gx43) h Tryz.underlying65 qan qlK (fun u hu=>((jt _):Plain ([(-1)].map (PR kA))) _ (List.mem_cons_self ..) u hu) O O fun l78 el78 h=>nsr<|L.r 2 O<|bi1 h fun l79 el79 h=>L.cutM (i:=5) (g:=(PR kA)) el79 O Tryz.underlying65 jl O O O fun v80=>(L.r 1 O<|cjc<|bb O O fun w1 hw=>⟨_,_,O,⟨v80,l79,O,O,h⟩,hw.s [0,1,2,3,4,7,5,6]⟩))
 rintro gv6 _ ⟨_,gl7,rfl,rfl,h⟩
 rw[qd4]at h
 refine yNF O kR qcM<|bP (q:=2) (si:=7) (ps:=27) (j:=0) (X:=[(td kH a0)]) qmL O O O (fun _ hw=>(As.at_ (hw.get (i:=6) O)).one) O O (by simp[zl,qc,en3,en4]) O<|nsr<|L.r 1 O<|yNF O kR wC<|yL (cO (q:=2) (si:=5) (ps:=6) (X:=(zr qn (tk kH a0) th1.items_).flatten) qnU qnN O O O (by simp[zl,qc,en3])<|zrN (nn:=20) (k:=1) (fun _ _=>O) en4)<|L.r 1 O<|cjp<|au (fun m gs D=>∃gl8 gx9 kO zO,∃gu13:Unit,gs=[(0,VP kG a0),(5,gv3),(58,.agg (zr qn (tk kH a0) th1.items_).flatten.toArray),(59,.int .i64 gx9)]∧D=Cls w F [tao kG kB kA kH A67 a0,tC kA kN kK,tt kG a0 kB th1 zO kO gv1 gv6,.ss (zs sd0 (fun _=>[]) th1.logs_),.ss (zs ti zO kO),tau gv3 gl8,tq gv1 gl2 kA,tq gv6 gl7 kA]∧Tl (tk kH a0) zO th1.items_ kO gx9∧qbK th1 A67 a0 gl2 gl7 m gl8 gx9 kO=some r) ⟨gl4,0,th1.items_,(tk kH a0),(),O,O,Tl.refl _ _ _,h⟩ ⟨O,O,O,O,trivial⟩ (sI [0,1,2,3,4,5,7,6]) ?_
 rintro m _ _ ⟨gl8,gx9,kO,zO,gu13,rfl,rfl,hG12,h⟩
 rcases m with _|m
 ·rw[qbK]at h;cases h
 rw[qbK]at h
 generalize hg1:qbK th1 A67 a0 gl2 gl7 m=go1 at h
 rw[qe7]at h
 refine sr<|ltL h (fun c6 h=>?_) fun c6 h=>?_
 ·refine cje<|L.r 1 O<|bi1 h fun x7 ex7 h=>yL (d8 (lb:=th1.items_) (vs:=(tk kH a0)) (vs':=zO) (lb':=kO) hG12 (Int.le_refl _) Tryz.underlying64 qmU qgs O O ex7)<|L.r 2 O<|nsr<|L.r 1 O<|yL (aF (g:=TVersion.row) (l:=x7) Tryz.underlying63 O fun w hw=>As.atZ (sds:=ti) (vs:=zO) (j:=0) (c:=1) (hw.get (i:=4) O) (fun _ _=>O) (Tl.idx hG12 (Int.le_refl _)<|qm ex7) O)<|gtL h (fun c8 h=>?_) fun c8 h=>?_
  ·refine cjg<|av (k:=13) (stC [[8,12],[12]] [Cls w F [tao kG kB kA kH A67 a0,tC kA kN kK,tt kG a0 kB th1 zO kO gv1 gv6,.ss (zs sd0 (fun _=>[]) th1.logs_),.ss (zs ti zO kO),tau gv3 gl8,tq gv1 gl2 kA,tq gv6 gl7 kA],Cls w F [tao kG kB kA kH A67 a0,tC kA kN kK,tt kG a0 kB th1 zO kO gv1 gv6,.ss (zs sd0 (fun _=>[]) th1.logs_),.ss (zs ti zO kO),tq gv1 gl2 kA,tq gv6 gl7 kA]]<|Cls w F [tao kG kB kA kH A67 a0,tC kA kN kK,.ss (zs sd0 (fun _=>[]) th1.logs_),tq gv1 gl2 kA,tq gv6 gl7 kA]) O mixed (fun _ hw=>hw.drew) sn<|aA [] (ax (ax zF<|sI [0,1,3,5,6])<|sI [0,1,3,6,7]) fun hz32=>(vR [0,1,2,3,4] O<|vN 5 [] O hz32 O kR<|vQ 6 [] hz32 O (aa yw O)<|aA [12] (ax (be hI)<|sI [0,1,2,3,4,6,7]) fun hz33=>(vQ 7 [12] hz33 O (al (q:=2) (si:=4) (ps:=5) (j:=0) (X:=[.int .i64 th1.now_]) ag3 O O O O (by simp[zl,qc,en3]) O)<|vN 9 [] O hz32 O kR<|vQ 10 [] hz32 O (aa wC O)<|vE 8 O<|bQ (fun v D=>∃yZ gv27 gl28,v=gv27∧D=Cls w F (tao kG kB kA kH A67 a0::tC kA kN kK::taM kG a0 kB th1 zO kO gv1 gv6 gv3 yZ gv27 gl28 gl2 kA gl7)∧qhU kO gx9 go1 yZ gl28=some r) O (by kernel_rfl) O Tryz.func104 O O O ?_ ?_))
   ·refine sr<|L.r 1 O<|nsr<|L.r 1 O<|bi1 h fun l41 e43 h=>bZ O (by kernel_rfl) O (fun w' hw=>qoE e43<|As.atZ (sds:=ti) (vs:=zO) (j:=0) (c:=1) (hw.get (i:=4) O) (fun _ _=>O) (Tl.idx hG12 (Int.le_refl _)<|qm ex7) O) ?_
    rintro v42 _ ⟨_,rfl,rfl⟩
    refine L.r 1 O<|ln<|ar (fun gs D=>∃jQ,gs=[(1,gv3),(2,.int .i64 th1.now_),(7,v42)]∧D=Cls w F (tao kG kB kA kH A67 a0::tC kA kN kK::taM kG a0 kB th1 zO kO gv1 gv6 gv3 gl8 v42 jQ gl2 kA gl7)∧qhT gl8 th1 kO gx9 go1 jQ=some r) ?_ ?_
    ·refine sr<|L.r 1 O<|yL (aF (g:=TVersion.row) (l:=l41) Tryz.underlying63 O<|aG 0 O)<|L.r 1 O<|cjp<|au (fun m gs D=>∃gl39 gx40,gs=[(1,gv3),(2,.int .i64 th1.now_),(7,v42),(17,.int .i64 (l41.length:Int)),(18,taB gx40)]∧D=Cls w F (tao kG kB kA kH A67 a0::tC kA kN kK::taM kG a0 kB th1 zO kO gv1 gv6 gv3 gl8 v42 gl39 gl2 kA gl7)∧qas l41 gl8 th1 kO gx9 go1 m gl39 gx40=some r) ⟨l41,0,O,O,h⟩ ⟨O,O,O,O,O,trivial⟩ (sI [1,2,3,4,5,6,0,7,8]) ?_
     rintro m _ _ ⟨gl39,gx40,rfl,rfl,h⟩
     rcases m with _|m
     ·rw[qas]at h;cases h
     rw[qas]at h
     generalize hg5:qas l41 gl8 th1 kO gx9 go1 m=go5 at h
     rw[qe3]at h
     refine sr<|ltL h (fun c67 h=>?_) fun c67 h=>?_
     ·exact cje<|L.r 2 O<|nr<|L.r 2 O<|mL (fun _=>el v42 (gx40.toNat*2)) h (ap (g:=TVersion.row) (l:=gl39) Tryz.underlying63 qaC O O<|aG 6 O) fun x68 ex68 h=>(yL (ch kb O)<|yL (cP (u:=.int .i64 x68.At) ag3 O (aG 6 O) (ql ex68) O)<|mA h fun x69 ex69 h=>(mL (fun _=>el v42 (gx40.toNat*2)) h (ap (g:=TVersion.row) (l:=gl39) Tryz.underlying63 qaC O O<|aG 6 O) fun x70 ex70 h=>(yL (ch kb O)<|bw (q:=6) (row:=TVersion.row) (vs:=(tH x69)) (j:=0) (u1:=(⟨x69,x70.Text⟩:TVersion)) h sz3 O O O O O (qW O zg) O ex70 O O fun l71 el71 h=>ae<|cjj<|mA h fun x72 ex72 h=>(L.r 1 O<|ae<|bi ⟨l71,x72,O,O,by rw[hg5];exact h⟩ hI))))
     exact cjm<|cjd<|ay ⟨gl39,O,O,h⟩ hI
    rintro _ _ ⟨jQ,rfl,rfl,h⟩
    rw[qhT]at h
    refine ar (fun gs D=>∃jM,gs=[(1,gv3),(2,.int .i64 th1.now_),(7,v42)]∧D=Cls w F (tao kG kB kA kH A67 a0::tC kA kN kK::taM kG a0 kB th1 zO kO gv1 gv6 gv3 jM v42 jQ gl2 kA gl7)∧qhS th1 jQ kO gx9 go1 jM=some r) ?_ ?_
    ·refine sr<|L.r 1 O<|yL (aF (g:=I) (l:=gl8) Tryz.underlying49 O<|aG 5 O)<|L.r 1 O<|cjp<|au (fun m gs D=>∃yC gx38,gs=[(1,gv3),(2,.int .i64 th1.now_),(7,v42),(31,.int .i64 (gl8.length:Int)),(32,taB gx38)]∧D=Cls w F (tao kG kB kA kH A67 a0::tC kA kN kK::taM kG a0 kB th1 zO kO gv1 gv6 gv3 yC v42 jQ gl2 kA gl7)∧qbG gl8 th1 jQ kO gx9 go1 m yC gx38=some r) ⟨gl8,0,O,O,h⟩ ⟨O,O,O,O,O,trivial⟩ hI ?_
     rintro m _ _ ⟨yC,gx38,rfl,rfl,h⟩
     rcases m with _|m
     ·rw[qbG]at h;cases h
     rw[qbG]at h
     generalize hg4:qbG gl8 th1 jQ kO gx9 go1 m=go4 at h
     rw[qe4]at h
     refine sr<|ltL h (fun c61 h=>?_) fun c61 h=>?_
     ·exact cje<|L.r 2 O<|nr<|L.r 2 O<|mL (fun _=>el gv3<|tbG gx38) h (ap (g:=I) (l:=yC) Tryz.underlying49 sz3 O O<|aG 5 O) fun x62 ex62 h=>(yL (aB (u:=.int .i64 x62) ag3 O (aG 5 O)<|ql ex62)<|mA h fun x63 ex63 h=>(mL (fun _=>el gv3<|tbG gx38) h (ap (g:=I) (l:=yC) Tryz.underlying49 sz3 O O<|aG 5 O) fun x64 ex64 h=>(bw (q:=5) (row:=I) (vs:=(tH x63)) (j:=0) (u1:=x63) h sz3 O O O O O (qW O zg) O ex64 O O fun l65 el65 h=>ae<|cjj<|mA h fun x66 ex66 h=>(L.r 1 O<|ae<|bi ⟨l65,x66,O,O,by rw[hg4];exact h⟩ hI))))
     exact cjm<|cjd<|ay ⟨yC,O,O,h⟩ hI
    rintro _ _ ⟨jM,rfl,rfl,h⟩
    rw[qhS]at h
    refine sr<|L.r 3 O<|mA h fun x44 ex44 h=>bi2 h fun l45 x47 e48 h=>bZ O (by kernel_rfl) O (fun w' hw=>qoD e48 (As.at_<|hw.get (i:=6) O)<|As.at_<|hw.get (i:=5) O) ?_
    rintro _ _ ⟨v46,rfl,rfl⟩
    refine L.r 5 O<|ln<|ar (fun gs D=>∃zI,gs=[(1,gv3),(10,v46)]∧D=Cls w F (tao kG kB kA kH A67 a0::tC kA kN kK::taM kG a0 kB th1 zO kO gv1 gv6 gv3 jM v46 zI gl2 kA gl7)∧qhR jM kO gx9 go1 zI=some r) ?_ ?_
    ·refine sr<|L.r 1 O<|yL (aF (g:=TVersion.row) (l:=l45) Tryz.underlying63 O<|aG 0 O)<|L.r 1 O<|cjp<|au (fun m gs D=>∃jL gx36,gs=[(1,gv3),(10,v46),(51,.int .i64 (l45.length:Int)),(52,taB gx36)]∧D=Cls w F (tao kG kB kA kH A67 a0::tC kA kN kK::taM kG a0 kB th1 zO kO gv1 gv6 gv3 jM v46 jL gl2 kA gl7)∧qbH l45 jM kO gx9 go1 m jL gx36=some r) ⟨l45,0,O,O,h⟩ ⟨O,O,O,O,trivial⟩ (sI [1,2,3,4,5,6,0,8,9]) ?_
     rintro m _ _ ⟨jL,gx36,rfl,rfl,h⟩
     rcases m with _|m
     ·rw[qbH]at h;cases h
     rw[qbH]at h
     generalize hg3:qbH l45 jM kO gx9 go1 m=go3 at h
     rw[qe5]at h
     refine sr<|ltL h (fun c55 h=>?_) fun c55 h=>?_
     ·exact cje<|L.r 2 O<|nr<|L.r 2 O<|mL (fun _=>el v46 (gx36.toNat*2)) h (ap (g:=TVersion.row) (l:=jL) Tryz.underlying63 qaC O O<|aG 6 O) fun x56 ex56 h=>(yL (ch kb O)<|yL (cP (u:=.int .i64 x56.At) ag3 O (aG 6 O) (ql ex56) O)<|mI h (bj O O) fun x57 ex57 h=>(mL (fun _=>el v46 (gx36.toNat*2)) h (ap (g:=TVersion.row) (l:=jL) Tryz.underlying63 qaC O O<|aG 6 O) fun x58 ex58 h=>(yL (ch kb O)<|bw (q:=6) (row:=TVersion.row) (vs:=(tH x57)) (j:=0) (u1:=(⟨x57,x58.Text⟩:TVersion)) h sz3 O O O O O (qW O zg) O ex58 O O fun l59 el59 h=>ae<|cjj<|mA h fun x60 ex60 h=>(L.r 1 O<|ae<|bi ⟨l59,x60,O,O,by rw[hg3];exact h⟩ hI))))
     exact cjm<|cjd<|ay ⟨jL,O,O,h⟩ hI
    rintro _ _ ⟨zI,rfl,rfl,h⟩
    rw[qhR]at h
    refine ar (fun gs D=>∃jD,gs=[(10,v46)]∧D=Cls w F [tao kG kB kA kH A67 a0,tC kA kN kK,tt kG a0 kB th1 zO kO gv1 gv6,.ss (zs sd0 (fun _=>[]) th1.logs_),.ss (zs ti zO kO),.sl v46 76 2 (tcy zI),tq gv1 gl2 kA,tq gv6 gl7 kA,tau gv3 jD]∧qhQ kO gx9 go1 zI jD=some r) ?_ ?_
    ·refine sr<|L.r 1 O<|yL (aF (g:=I) (l:=jM) Tryz.underlying49 O<|aG 5 O)<|L.r 1 O<|cjp<|au (fun m gs D=>∃gl33 gx34,gs=[(1,gv3),(10,v46),(65,.int .i64 (jM.length:Int)),(66,taB gx34)]∧D=Cls w F (tao kG kB kA kH A67 a0::tC kA kN kK::taM kG a0 kB th1 zO kO gv1 gv6 gv3 gl33 v46 zI gl2 kA gl7)∧qbI jM kO gx9 go1 zI m gl33 gx34=some r) ⟨jM,0,O,O,h⟩ ⟨O,O,O,O,trivial⟩ hI ?_
     rintro m _ _ ⟨gl33,gx34,rfl,rfl,h⟩
     rcases m with _|m
     ·rw[qbI]at h;cases h
     rw[qbI]at h
     generalize hg2:qbI jM kO gx9 go1 zI m=go2 at h
     rw[qe6]at h
     refine sr<|ltL h (fun c49 h=>?_) fun c49 h=>?_
     ·exact cje<|L.r 2 O<|nr<|L.r 2 O<|mL (fun _=>el gv3<|tbG gx34) h (ap (g:=I) (l:=gl33) Tryz.underlying49 sz3 O O<|aG 5 O) fun x50 ex50 h=>(yL (aB (u:=.int .i64 x50) ag3 O (aG 5 O)<|ql ex50)<|mI h (bj O O) fun x51 ex51 h=>(mL (fun _=>el gv3<|tbG gx34) h (ap (g:=I) (l:=gl33) Tryz.underlying49 sz3 O O<|aG 5 O) fun x52 ex52 h=>(bw (q:=5) (row:=I) (vs:=(tH x51)) (j:=0) (u1:=x51) h sz3 O O O O O (qW O zg) O ex52 O O fun l53 el53 h=>ae<|cjj<|mA h fun x54 ex54 h=>(L.r 1 O<|ae<|bi ⟨l53,x54,O,O,by rw[hg2];exact h⟩ hI))))
     exact cjm<|cjd<|ay ⟨gl33,O,O,h⟩<|sI [0,1,2,3,4,6,7,8,5]
    rintro _ _ ⟨jD,rfl,rfl,h⟩
    rw[qhQ]at h
    exact sr<|L.r 2 O<|cjc<|bb O O fun w1 hw=>⟨_,_,O,⟨jD,v46,zI,O,O,h⟩,hw.s [0,1,2,3,4,8,5,6,7]⟩
   rintro gv27 _ ⟨yZ,_,gl28,rfl,rfl,h⟩
   rw[qhU]at h
   exact ltV (stC [[12]] [Cls w F [tao kG kB kA kH A67 a0,tC kA kN kK,tt kG a0 kB th1 zO kO gv1 gv6,.ss (zs sd0 (fun _=>[]) th1.logs_),.ss (zs ti zO kO),.sl gv27 76 2 (tcy gl28),tq gv1 gl2 kA,tq gv6 gl7 kA]]<|Cls w F [tao kG kB kA kH A67 a0,tC kA kN kK,.ss (zs sd0 (fun _=>[]) th1.logs_),tq gv1 gl2 kA,tq gv6 gl7 kA]) 8 (aw O<|Sc.stay (sI [0,1,2,3,4,6,7]) sD) (sN<|sI [0,1,2,3,4,6,7,8])<|aA [12] (be hI) fun hz35=>(vM 11 [12] (fun _=>tcG kG a0 gx9) hz35 O h (aR (l:=kO) Tryz.underlying64 qgs O O) fun x36 ex36 h=>(vE 12 O<|db (si:=5) (ps:=6) (row:=qn) (sds:=ti) (vs:=zO) (q:=2) (p:=6) (s:=4) (c:=1) (jj:=0) (u1:=gl28) (v1:=[gv27]) (j:=0) h qgs O O O O O (by simp[zl,qc,en3]) O O (.inl O) (fun _ _=>O) (fun _ _=>O) (qm ex36) O O O O fun l37 q38 el37 hgt39 h=>ltV (stC [] []<|Cls w F [tao kG kB kA kH A67 a0,tC kA kN kK,.ss (zs sd0 (fun _=>[]) th1.logs_),tq gv1 gl2 kA,tq gv6 gl7 kA]) 12 (aw O sD) (aP<|sI [0,1,3,6,7])<|vD<|cjj<|mA h fun x40 ex40 h=>(L.r 1 O<|ae<|bi ⟨yZ,x40,l37,q38,(),O,O,(Tl.mono (Tl.put (p':=(gx9+1)) hG12 el37 hgt39 (by omega) (by omega)) (by have h9:=vA ex40;omega)),by rw[hg1];exact h⟩ hI)))
  exact cja<|cjj<|mA h fun x73 ex73 h=>(L.r 1 O<|ae<|bi ⟨gl8,x73,kO,zO,(),O,O,(Tl.mono hG12 (by have h9:=vA ex73;omega)),by rw[hg1];exact h⟩ hI)
 refine cjm<|cjd<|az (D:=Cls w F [kZ kG kB kA kH A67 (a0.toNat::[]),yV kA kN kK [],.obj (kG a0.toNat) (List.flatten [(zr (fzr (PR kB)) (fun _=>[]) th1.logs_).flatten,[.int .i64 th1.half_],[.int .i64 th1.gen_],[.bool th1.down_],[.int .i64 th1.now_],(zr qn (qN ([gv1,gv6]++ghl zO kO.length) 2) kO).flatten,[gv1],[gv6]]) 67,.ss (zs sd0 (fun _=>[]) th1.logs_),.ss (zs (zv 76 2 TVersion.row) (qN ([gv1,gv6]++ghl zO kO.length) 2) kO),.sl gv3 3 1 (gl8.map I),.sl gv1 127 1 (gl2.map (PR kA)),.sl gv6 127 1 (gl7.map (PR kA))]) (fun _ hw=>by rw[xr [gv1,gv6] _ 2 _ O,xq [gv1,gv6] _ 2 _ O];exact hw)<|bi1 h fun l75 el75 h=>bL (row:=TStore.rowA kB kA) (sub:=TStore.subA kB kA) (e:=67) (g:=kG) (gh:=kH) (vs':=([gv1,gv6]++ghl zO kO.length)) (m':=[tC kA kN kK,tau gv3 gl8]) [2,6,7,3,4,0,1,5] el75 O fun q74=>az (D:=Cls w F [tar kG kB kA q74 l75,tC kA kN kK,tau gv3 gl8]) hI<|cN O fun w1 hw=>?_
 cases h
 exact⟨_,_,O,⟨_,O,O⟩,hw.s [0,1]⟩
theorem qn1{a0 w r}(h:qlF a0=some r):Does Tryz.prog 109 [st a0] w fun u m=>u=.tuple #[st r.1,.int .i64 r.2]∧m=[]:=by
 rw[qlF]at h
 refine body (n:=13) Tryz.func109 O O O (Cls.refl w)<|sr<|L.r 2 O<|cjf<|L.r 1 O<|yL (aK Tryz.underlying9 O)<|gtL h (fun c1 h=>?_) fun c1 h=>?_
 ·cases h
  exact cjb<|L.r 2 O<|cjh<|rT2 d0
 refine cji<|L.r 1 O<|yL (aK Tryz.underlying9 O)<|yL (a7 Tryz.underlying3 Tryz.underlying156 O)<|bi1 h fun s2 e3 h=>yL (ye O fun w' hw=>qnI e3)<|L.r 1 O<|mL (fun s4=>st s4) h (bg O O) fun s4 es4 h=>(L.r 2 O<|cjc<|rT2 fun w1 hw=>?_)
 cases h
 exact⟨_,_,O,⟨O,O⟩,hw⟩
theorem W65{a0 a1 w r}(h:M65 a0 a1=some r):Does Tryz.prog 65 (tcQ a0 a1) w fun u m=>u=st r∧m=[]:=by
 rw[M65]at h
 refine body (n:=16) Tryz.func65 O O O (Cls.refl w)<|sr<|L.r 1 O<|nsr<|L.r 1 O<|bi2 h fun s1 x2 e3 h=>yL (ye O fun w' hw=>qn1 e3)<|L.r 5 O<|nsr<|L.r 1 O<|bi1 h fun s4 e5 h=>yL (yf qhv O fun w' hw=>W63 e5)<|L.r 1 O<|mL (fun s6=>st s6) h (bg O O) fun s6 es6 h=>(L.r 1 O<|cjc<|rT fun w1 hw=>?_)
 cases h
 exact⟨_,_,O,⟨O,O⟩,hw⟩
end Go.Proofs.YtloiiohoelhldaaGreatDoor
