import Derived.Test.YtloiiohoelhldaaGreatDoorSpV
import Derived.Test.YtloiiohoelhldaaGreatDoorSpW2
import Derived.Test.YtloiiohoelhldaaGreatDoorChecked
import Derived.KernelRfl
import Derived.Test.YtloiiohoelhldaaGreatDoorZg
set_option maxRecDepth 100000
set_option maxHeartbeats 8000000
namespace Go.Proofs.YtloiiohoelhldaaGreatDoor
open Go.S
set_option linter.unusedVariables false
set_option linter.unusedSimpArgs false
theorem W94{a0 a1 a2 A51 kF kP w r F}(h:M94 a0 a1 a2 A51=some r)(hc0:Cls w F [tF kF kP A51] w):qz Tryz.prog 94 (VP kF a0::tcQ a1 a2) F w fun u m=>∃Q51,u=.int .i64 r.2∧m=[yS kF Q51 r.1 []]:=by
 rw[M94]at h
 refine body (n:=78) Tryz.func94 O O O hc0<|sr<|L.r 1 O<|cjf<|L.r 1 O<|ltL h (fun c1 h=>?_) fun c1 h=>?_
 ·cases h
  exact L.r 9 O<|cjb<|L.r 1 O<|cjh<|rT fun w1 hw=>⟨_,_,O,⟨_,O,O⟩,hw⟩
 refine L.r 3 O<|tkL<|bi1 h fun th2 jU h=>aj (D:=Cls w F<|taE kF a0 kP th2 A51) (aoI 0 O jU)<|yN O jU<|tkL<|yF ji O<|tkL<|yP 0 wv O O O<|tkL<|yL (aF (g:=SR) (l:=th2.Seen) Tryz.underlying48 O<|aG 1 O)<|tkL<|iL h (bU O O) (fun c3 h=>?_) fun c3 h=>?_
 ·cases h
  exact L.r 1 O<|cjb<|L.r 1 O<|cjh<|az (D:=Cls w F [tF kF kP A51]) (asI [0,1,2,3,4,5] jU O)<|rT fun w1 hw=>⟨_,_,O,⟨_,O,O⟩,hw⟩
 refine L.r 1 O<|cjl<|sr<|L.r 1 O<|yL (aK Tryz.underlying9 O)<|gtL h (fun c4 h=>?_) fun c4 h=>?_
 ·cases h
  exact cjb<|L.r 1 O<|cjh<|az (D:=Cls w F [tF kF kP A51]) (asI [0,1,2,3,4,5] jU O)<|rT fun w1 hw=>⟨_,_,O,⟨_,O,O⟩,hw⟩
 refine cjl<|sr<|L.r 1 O<|yNP O jU jh 0 ag3 O O<|eqL h (fun c5 h=>?_) fun c5 h=>?_
 ·cases h
  exact cjb<|L.r 1 O<|cjh<|az (D:=Cls w F [tF kF kP A51]) (asI [0,1,2,3,4,5] jU O)<|rT fun w1 hw=>⟨_,_,O,⟨_,O,O⟩,hw⟩
 refine cjl<|av (k:=15) (stC [[14]] [Cls w F (taE kF a0 kP th2 A51)]<|Cls w F (.sl (tc kP a0) 9 1 (th2.Seen.map SR)::tV kP a0 th2 kF A51)) O mixed (fun _ hw=>hw.drew) sn<|aA [] (ax zF<|sI [1,2,3,4,5]) fun hz8=>(vR [0,1] O<|vN 2 [] O hz8 O jU<|vQ 3 [] hz8 O (aa jh O)<|aA [14] (be hI) fun hz9=>(vQ 4 [14] hz9 O (am (i:=0) ag3 O O O)<|vM 5 [] (fun x10=>.int .i64 x10) hz8 O h (bj O O) fun x10 ex10 h=>vR [6] O<|vN 7 [] O hz8 O jU<|vQ 8 [] hz8 O (aa jh O)<|vQ 9 [14] hz9 O (am (i:=0) ag3 O O O)<|vQ 10 [] hz8 O (dg O O)<|vQ 11 [] hz8 O (dD O O)<|vN 12 [] O hz8 O jU<|vQ 13 [] hz8 O (aa jh O)<|vE 14 O<|svL 0 [.int .i64 (max x10 (min th2.left_ (-1)))] sz3 O O O<|ltV (stC [] []<|Cls w F (.sl (tc kP a0) 9 1 (th2.Seen.map SR)::tV kP a0 th2 kF A51)) 14 (aw O sD) (aP<|sI [1,2,3,4,5])<|vD<|ab<|aE<|av (k:=13) (stC [[12]] [Cls w F (taJ kF a0 kP x10 th2::.sl (tc kP a0) 9 1 (th2.Seen.map SR)::tV kP a0 th2 kF A51)]<|Cls w F (taJ kF a0 kP x10 th2::tV kP a0 th2 kF A51)) O mixed (fun _ hw=>hw.drew) sn<|aA [] (ax zF<|sI [0,2,3,4,5]) fun hz19=>(vR [0] O<|vN 1 [] O hz19 O jU<|vQ 2 [] hz19 O (aa ji O)<|vQ 3 [] hz19 O (am (i:=0) wv O O O)<|vR [4,5,6] O<|vQ 7 [] hz19 O (aK Tryz.underlying9 O)<|vM 8 [] (fun x20=>.int .i64 x20) hz19 O h (bj O O) fun x20 ex20 h=>(vE 9 O<|bi1 h fun s21 e22 h=>yL (yf qml O fun w' hw=>W18 e22)<|ltV (stC [[12]] [Cls w F (taJ kF a0 kP x10 th2::.sl (tc kP a0) 9 1 (th2.Seen.map SR)::tV kP a0 th2 kF A51)]<|Cls w F (taJ kF a0 kP x10 th2::tV kP a0 th2 kF A51)) 9 (sT sD) sn<|aA [] (ax zF<|sI [0,2,3,4,5]) fun hz23=>(vM 10 [] (fun s24=>st s24) hz23 O h (bg O O) fun s24 es24 h=>(aA [12] (be hI) fun hz25=>(vM 11 [12] (fun _=>el (tc kP a0)<|tbG a1) hz25 O h (ap (g:=SR) (l:=th2.Seen) Tryz.underlying48 sz9 O O<|aG 1 O) fun x26 ex26 h=>(vE 12 O<|bw (q:=1) (row:=SR) (vs:=[st s24]) (j:=0) (u1:=s24) h sz9 O O O O O (qW O zg) O ex26 O O fun l27 el27 h=>ltV (stC [] []<|Cls w F (taJ kF a0 kP x10 th2::tV kP a0 th2 kF A51)) 12 (aw O sD) (aP<|sI [0,2,3,4,5])<|vD<|ab<|ar (fun gs D=>∃gl1 gq2,gs=[]∧D=Cls w F [tF kF gq2 gl1]∧qjg gl1=some r) ?_ ?_))))))))
 ·refine av (k:=28) (stC tcP [Cls w F (taJ kF a0 kP x10 th2::taY kP a0 l27::tV kP a0 th2 kF A51),Cls w F (tbr kF a0 kP x10 th2 l27 A51),Cls w F (tbs kF a0 kP x10 th2 l27 A51)]<|Cls w F<|tae kP a0 l27 th2 kF A51) O mixed (fun _ hw=>hw.drew) sn<|aA [] (ax (ax (ax zF<|sI [1,2,3])<|sI [1,2,4])<|sI [1,2,5]) fun hz50=>(vR [0,1,2] O<|vN 3 [] O hz50 O jU<|vQ 4 [] hz50 O (aa y3 O)<|aA [24] (ax (ax (be hI)<|sI [0,1,2,4])<|sI [0,1,2,5]) fun hz51=>(vQ 5 [24] hz51 O (am (i:=0) qbv O O O)<|vR [6,9] O<|vN 10 [] O hz50 O jU<|vQ 11 [] hz50 O (aa y0 O)<|vQ 12 [24] hz51 O (am (i:=0) wv O O O)<|vR [13] O<|vN 14 [] O hz50 O jU<|vQ 15 [] hz50 O (aa ji O)<|vQ 16 [24] hz51 O (am (i:=0) wv O O O)<|vR [17] O<|vM 18 [] (fun _=>el (tc kP a0)<|tbG a1) hz50 O h (ap (g:=SR) (l:=l27) Tryz.underlying48 sz9 O O<|aG 0 O) fun x52 ex52 h=>(vQ 19 [] hz50 O (aB (u:=st x52) ag9 O (aG 0 O)<|ql ex52)<|cE (i1:=7) (i2:=20) (by kernel_rfl) O O ?_ ?_)))
  ·refine aI O Tryz.underlying49 eL3 O O fun b53=>ltV (stC tcP [Cls w F (taG b53 a1::taJ kF a0 kP x10 th2::taY kP a0 l27::tV kP a0 th2 kF A51),Cls w F (taG b53 a1::tbr kF a0 kP x10 th2 l27 A51),Cls w F (taG b53 a1::tbs kF a0 kP x10 th2 l27 A51)]<|Cls w F (taG b53 a1::tae kP a0 l27 th2 kF A51)) 7 (Sc.stay (sI [1,2,3,4,5,6])<|Sc.stay (sI [1,2,3,4,5])<|Sc.stay (sI [1,2,3,4])<|aD<|sI [1,2,3]) sn<|cE (i1:=8) (i2:=20) (by kernel_rfl) O O ?_ ?_
   ·exact bc (i:=4) (g:=I) (l:=th2.late_) (more:=[a1]) h O Tryz.underlying49 eL3 O O O (aG 0 O) (zb _) O fun v54 l55 el55 h=>ltV (stC [[21,24],[24]] [Cls w F (tau v54 l55::taG b53 a1::tbr kF a0 kP x10 th2 l27 A51),Cls w F (tau v54 l55::taG b53 a1::tbs kF a0 kP x10 th2 l27 A51)]<|Cls w F (tcr v54 l55::taG b53 a1::tae kP a0 l27 th2 kF A51)) 8 (aw O<|Sc.stay (sI [1,2,3,4,5,6])<|Sc.stay (sI [1,2,3,4,5])<|aD<|sI [1,2,3,4]) sn<|vE 20 O<|aI O Tryz.underlying48 eL9 O O fun b56=>ltV (stC [[21,24],[24]] [Cls w F (tu b56 x52::tau v54 l55::taG b53 a1::tbr kF a0 kP x10 th2 l27 A51),Cls w F (tu b56 x52::tau v54 l55::taG b53 a1::tbs kF a0 kP x10 th2 l27 A51)]<|Cls w F (tu b56 x52::tcr v54 l55::taG b53 a1::tae kP a0 l27 th2 kF A51)) 20 (Sc.stay (sI [1,2,3,4,5,6,7])<|Sc.stay (sI [1,2,3,4,5,6])<|aD<|sI [1,2,3,4,5]) sn<|vE 21 O<|bc (i:=6) (g:=SR) (l:=th2.texts_) (more:=[x52]) h O Tryz.underlying48 eL9 O O O (aG 0 O) (qi _) O fun v57 l58 el58 h=>ltV (stC [[24]] [Cls w F (tl v57 l58::tu b56 x52::tau v54 l55::taG b53 a1::tbs kF a0 kP x10 th2 l27 A51)]<|Cls w F (tl v57 l58::tu b56 x52::tcr v54 l55::taG b53 a1::tae kP a0 l27 th2 kF A51)) 21 (aw O<|Sc.stay (sI [1,2,3,4,5,6,7])<|aD<|sI [1,2,3,4,5,6]) sn<|aA [] (ax zF<|sI [0,1,2,3,5,6,7]) fun hz59=>(vN 22 [] O hz59 O jU<|vQ 23 [] hz59 O (aa y3 O)<|vE 24 O<|bq (i:=4) qku O O (fun _ hw=>(As.at_ (hw.get (i:=2) O)).one) O nb<|ltV (stC [] []<|Cls w F (tl v57 l58::tu b56 x52::tcr v54 l55::taG b53 a1::tae kP a0 l27 th2 kF A51)) 24 (aw O sD) (aP<|sI [0,1,2,3,5,6,7])<|aA [] zF fun hz60=>(vN 25 [] O hz60 O jU<|vQ 26 [] hz60 O (aa y0 O)<|vE 27 O<|bq (i:=4) qgF O O (fun _ hw=>(As.at_ (hw.get (i:=0) O)).one) O nb<|ltV (stC [] []<|Cls w F (tl v57 l58::tu b56 x52::tcr v54 l55::taG b53 a1::tae kP a0 l27 th2 kF A51)) 27 sD (aP<|sI [0,1,2,3,5,6,7])<|vD<|bi1 h fun l61 el61 h=>bL (row:=TDisk51.rowA) (sub:=TDisk51.subA) (e:=51) (g:=kF) (gh:=kP) (vs':=[(tc kP a0),(td kP a0),v54,v57]) (m':=[tu b56 x52,taG b53 a1]) [4,5,6,2,0,7,1,3] el61 O fun q62=>az (D:=Cls w F [tF kF q62 l61,tu b56 x52,taG b53 a1]) hI<|bB ⟨l61,q62,O,O,h⟩ trivial<|sI [0]))
   exact aI O Tryz.underlying48 eL9 O O fun b63=>ltV (stC tcP [Cls w F (tu b63 x52::taG b53 a1::taJ kF a0 kP x10 th2::taY kP a0 l27::tV kP a0 th2 kF A51),Cls w F (tu b63 x52::taG b53 a1::tbr kF a0 kP x10 th2 l27 A51),Cls w F (tu b63 x52::taG b53 a1::tbs kF a0 kP x10 th2 l27 A51)]<|Cls w F (tu b63 x52::taG b53 a1::tae kP a0 l27 th2 kF A51)) 20 (Sc.stay (sI [1,2,3,4,5,6,7])<|Sc.stay (sI [1,2,3,4,5,6])<|Sc.stay (sI [1,2,3,4,5])<|aD<|sI [1,2,3,4]) sn<|vE 8 O<|bc (i:=5) (g:=I) (l:=th2.late_) (more:=[a1]) h O Tryz.underlying49 eL3 O O O (aG 1 O) (zb _) O fun v64 l65 el65 h=>ltV (stC [[21,24],[24]] [Cls w F (tau v64 l65::tu b63 x52::taG b53 a1::tbr kF a0 kP x10 th2 l27 A51),Cls w F (tau v64 l65::tu b63 x52::taG b53 a1::tbs kF a0 kP x10 th2 l27 A51)]<|Cls w F (tcr v64 l65::tu b63 x52::taG b53 a1::tae kP a0 l27 th2 kF A51)) 8 (aw O<|Sc.stay (sI [1,2,3,4,5,6,7])<|Sc.stay (sI [1,2,3,4,5,6])<|aD<|sI [1,2,3,4,5]) sn<|vE 21 O<|bc (i:=6) (g:=SR) (l:=th2.texts_) (more:=[x52]) h O Tryz.underlying48 eL9 O O O (aG 1 O) (qi _) O fun v66 l67 el67 h=>ltV (stC [[24]] [Cls w F (tl v66 l67::tau v64 l65::tu b63 x52::taG b53 a1::tbs kF a0 kP x10 th2 l27 A51)]<|Cls w F (tl v66 l67::tcr v64 l65::tu b63 x52::taG b53 a1::tae kP a0 l27 th2 kF A51)) 21 (aw O<|Sc.stay (sI [1,2,3,4,5,6,7])<|aD<|sI [1,2,3,4,5,6]) sn<|aA [] (ax zF<|sI [0,1,2,3,5,6,7]) fun hz68=>(vN 22 [] O hz68 O jU<|vQ 23 [] hz68 O (aa y3 O)<|vE 24 O<|bq (i:=4) qku O O (fun _ hw=>(As.at_ (hw.get (i:=1) O)).one) O nb<|ltV (stC [] []<|Cls w F (tl v66 l67::tcr v64 l65::tu b63 x52::taG b53 a1::tae kP a0 l27 th2 kF A51)) 24 (aw O sD) (aP<|sI [0,1,2,3,5,6,7])<|aA [] zF fun hz69=>(vN 25 [] O hz69 O jU<|vQ 26 [] hz69 O (aa y0 O)<|vE 27 O<|bq (i:=4) qgF O O (fun _ hw=>(As.at_ (hw.get (i:=0) O)).one) O nb<|ltV (stC [] []<|Cls w F (tl v66 l67::tcr v64 l65::tu b63 x52::taG b53 a1::tae kP a0 l27 th2 kF A51)) 27 sD (aP<|sI [0,1,2,3,5,6,7])<|vD<|bi1 h fun l70 el70 h=>bL (row:=TDisk51.rowA) (sub:=TDisk51.subA) (e:=51) (g:=kF) (gh:=kP) (vs':=[(tc kP a0),(td kP a0),v64,v66]) (m':=[tu b63 x52,taG b53 a1]) [4,5,6,1,0,7,2,3] el70 O fun q71=>az (D:=Cls w F [tF kF q71 l70,tu b63 x52,taG b53 a1]) hI<|bB ⟨l70,q71,O,O,h⟩ trivial<|sI [0]))
  exact aI O Tryz.underlying48 eL9 O O fun b72=>ltV (stC tcP [Cls w F (tu b72 x52::taJ kF a0 kP x10 th2::taY kP a0 l27::tV kP a0 th2 kF A51),Cls w F (tu b72 x52::tbr kF a0 kP x10 th2 l27 A51),Cls w F (tu b72 x52::tbs kF a0 kP x10 th2 l27 A51)]<|Cls w F (tu b72 x52::tae kP a0 l27 th2 kF A51)) 20 (Sc.stay (sI [1,2,3,4,5,6])<|Sc.stay (sI [1,2,3,4,5])<|Sc.stay (sI [1,2,3,4])<|aD<|sI [1,2,3]) sn<|vE 7 O<|aI O Tryz.underlying49 eL3 O O fun b73=>ltV (stC tcP [Cls w F (taG b73 a1::tu b72 x52::taJ kF a0 kP x10 th2::taY kP a0 l27::tV kP a0 th2 kF A51),Cls w F (taG b73 a1::tu b72 x52::tbr kF a0 kP x10 th2 l27 A51),Cls w F (taG b73 a1::tu b72 x52::tbs kF a0 kP x10 th2 l27 A51)]<|Cls w F (taG b73 a1::tu b72 x52::tae kP a0 l27 th2 kF A51)) 7 (Sc.stay (sI [1,2,3,4,5,6,7])<|Sc.stay (sI [1,2,3,4,5,6])<|Sc.stay (sI [1,2,3,4,5])<|aD<|sI [1,2,3,4]) sn<|vE 8 O<|bc (i:=5) (g:=I) (l:=th2.late_) (more:=[a1]) h O Tryz.underlying49 eL3 O O O (aG 0 O) (zb _) O fun v74 l75 el75 h=>ltV (stC [[21,24],[24]] [Cls w F (tau v74 l75::taG b73 a1::tu b72 x52::tbr kF a0 kP x10 th2 l27 A51),Cls w F (tau v74 l75::taG b73 a1::tu b72 x52::tbs kF a0 kP x10 th2 l27 A51)]<|Cls w F (tcr v74 l75::taG b73 a1::tu b72 x52::tae kP a0 l27 th2 kF A51)) 8 (aw O<|Sc.stay (sI [1,2,3,4,5,6,7])<|Sc.stay (sI [1,2,3,4,5,6])<|aD<|sI [1,2,3,4,5]) sn<|vE 21 O<|bc (i:=6) (g:=SR) (l:=th2.texts_) (more:=[x52]) h O Tryz.underlying48 eL9 O O O (aG 2 O) (qi _) O fun v76 l77 el77 h=>ltV (stC [[24]] [Cls w F (tl v76 l77::tau v74 l75::taG b73 a1::tu b72 x52::tbs kF a0 kP x10 th2 l27 A51)]<|Cls w F (tl v76 l77::tcr v74 l75::taG b73 a1::tu b72 x52::tae kP a0 l27 th2 kF A51)) 21 (aw O<|Sc.stay (sI [1,2,3,4,5,6,7])<|aD<|sI [1,2,3,4,5,6]) sn<|aA [] (ax zF<|sI [0,1,2,3,5,6,7]) fun hz78=>(vN 22 [] O hz78 O jU<|vQ 23 [] hz78 O (aa y3 O)<|vE 24 O<|bq (i:=4) qku O O (fun _ hw=>(As.at_ (hw.get (i:=1) O)).one) O nb<|ltV (stC [] []<|Cls w F (tl v76 l77::tcr v74 l75::taG b73 a1::tu b72 x52::tae kP a0 l27 th2 kF A51)) 24 (aw O sD) (aP<|sI [0,1,2,3,5,6,7])<|aA [] zF fun hz79=>(vN 25 [] O hz79 O jU<|vQ 26 [] hz79 O (aa y0 O)<|vE 27 O<|bq (i:=4) qgF O O (fun _ hw=>(As.at_ (hw.get (i:=0) O)).one) O nb<|ltV (stC [] []<|Cls w F (tl v76 l77::tcr v74 l75::taG b73 a1::tu b72 x52::tae kP a0 l27 th2 kF A51)) 27 sD (aP<|sI [0,1,2,3,5,6,7])<|vD<|bi1 h fun l80 el80 h=>bL (row:=TDisk51.rowA) (sub:=TDisk51.subA) (e:=51) (g:=kF) (gh:=kP) (vs':=[(tc kP a0),(td kP a0),v74,v76]) (m':=[taG b73 a1,tu b72 x52]) [4,5,6,1,0,7,2,3] el80 O fun q81=>az (D:=Cls w F [tF kF q81 l80,taG b73 a1,tu b72 x52]) hI<|bB ⟨l80,q81,O,O,h⟩ trivial<|sI [0]))
 rintro _ _ ⟨gl1,gq2,rfl,rfl,h⟩
 rw[qjg]at h
 cases h
 exact sr<|L.r 1 O<|cjc<|rT fun w1 hw=>⟨_,_,O,⟨_,O,O⟩,hw⟩
theorem W36{a0 u0 w r}(h:M36 a0=some r)(hA0:At w u0 1 (a0.map SR)):Does Tryz.prog 36 [u0] w fun u m=>∃v0,u=v0∧m=[tl v0 r]:=by
 rw[M36]at h
 rcases hA0.shape with⟨rfl,hn⟩|⟨ad,cap,rfl,hl,hm⟩
 ·obtain rfl:a0=[]:=by simpa using hn
  replace h:some ([]:List (List UInt8))=some r:=by simpa [app]using h
  cases h
  exact body (n:=8) Tryz.func36 O O O (Cls.refl w)<|sr<|L.r 1 O<|cjf<|L.r 1 O<|yL (ci Tryz.underlying48 O O)<|cjb<|L.r 1 O<|cjh<|rT fun w1 hw=>⟨_,_,O,⟨_,O,O⟩,(hw.nilSl 9 1)⟩
 refine body (n:=8) Tryz.func36 O O O (Cls.refl w)<|sr<|L.r 1 O<|cjf<|L.r 1 O<|yL (ci Tryz.underlying48 O O)<|cji<|dp O Tryz.underlying48 eL9 fun b1=>L.r 1 O<|bc (i:=0) (g:=SR) (l:=[]) (more:=a0) h O Tryz.underlying48 eL9 O O O (fun w' hw=>hA0.cls0 hw) (qi _) O fun v2 l3 el3 h=>L.r 1 O<|cjc<|rT fun w1 hw=>?_
 cases h
 exact⟨_,_,O,⟨_,O,O⟩,hw⟩
theorem W95{a0 A51 kF kP w r F}(h:M95 a0 A51=some r)(hc0:Cls w F [tF kF kP A51] w):qz Tryz.prog 95 [VP kF a0] F w fun u m=>∃Q51,u=.int .i64 r.2∧m=[yS kF Q51 r.1 []]:=by
 rw[M95]at h
 refine body (n:=36) Tryz.func95 O O O hc0<|sr<|L.r 1 O<|cjf<|L.r 1 O<|bi1 h fun th1 kR h=>aj (D:=Cls w F<|taE kF a0 kP th1 A51) (aoI 0 O kR)<|yNP O kR jh 0 ag3 O O<|eqL h (fun c2 h=>?_) fun c2 h=>?_
 ·cases h
  exact cjb<|L.r 1 O<|cjh<|az (D:=Cls w F [tF kF kP A51]) (asI [0,1,2,3,4,5] kR O)<|rT fun w1 hw=>⟨_,_,O,⟨_,O,O⟩,hw⟩
 refine cjl<|av (k:=15) (stC [[14]] [Cls w F (taE kF a0 kP th1 A51)]<|Cls w F (.sl (tc kP a0) 9 1 (th1.Seen.map SR)::tV kP a0 th1 kF A51)) O mixed (fun _ hw=>hw.drew) sn<|aA [] (ax zF<|sI [1,2,3,4,5]) fun hz5=>(vR [0,1] O<|vN 2 [] O hz5 O kR<|vQ 3 [] hz5 O (aa jh O)<|aA [14] (be hI) fun hz6=>(vQ 4 [14] hz6 O (am (i:=0) ag3 O O O)<|vM 5 [] (fun x7=>.int .i64 x7) hz5 O h (bj O O) fun x7 ex7 h=>vR [6] O<|vN 7 [] O hz5 O kR<|vQ 8 [] hz5 O (aa jh O)<|vQ 9 [14] hz6 O (am (i:=0) ag3 O O O)<|vQ 10 [] hz5 O (dg O O)<|vQ 11 [] hz5 O (dD O O)<|vN 12 [] O hz5 O kR<|vQ 13 [] hz5 O (aa jh O)<|vE 14 O<|svL 0 [.int .i64 (max x7 (min th1.left_ (-1)))] sz3 O O O<|ltV (stC [] []<|Cls w F (.sl (tc kP a0) 9 1 (th1.Seen.map SR)::tV kP a0 th1 kF A51)) 14 (aw O sD) (aP<|sI [1,2,3,4,5])<|vD<|ab<|sr<|L.r 2 O<|yNP O kR ji 0 wv O O<|bi1 h fun l8 e10 h=>bZ O (by kernel_rfl) O (fun w' hw=>W36 e10<|As.at_<|hw.get (i:=1) O) ?_))
 rintro v9 _ ⟨_,rfl,rfl⟩
 refine yNF O kR qcQ<|bq (i:=1) qgF O O (fun _ hw=>(As.at_ (hw.get (i:=0) O)).one) O nb<|nsr<|L.r 2 O<|yNF O kR y3<|svL 1 [tO] qku O O O<|yNF O kR y0<|svL 1 [tO] qgF O O O<|nsr<|L.r 1 O<|cjc<|E.nilSl 3 1<|E.nilSl 9 1<|bi1 h fun l11 el11 h=>bL (row:=TDisk51.rowA) (sub:=TDisk51.subA) (e:=51) (g:=kF) (gh:=kP) (vs':=[(tc kP a0),v9,(tO),(tO)]) (m':=[.sl (td kP a0) 9 1 (th1.Safe.map SR),.sl (ts kP a0) 3 1 (th1.late_.map I),.sl (tz kP a0) 9 1 (th1.texts_.map SR)]) [3,4,2,1,0,8,5,6,7] el11 O fun q12=>az (D:=Cls w F [tF kF q12 l11,.sl (td kP a0) 9 1 (th1.Safe.map SR),.sl (ts kP a0) 3 1 (th1.late_.map I),.sl (tz kP a0) 9 1 (th1.texts_.map SR)]) hI<|rT fun w1 hw=>?_
 cases h
 exact⟨_,_,O,⟨_,O,O⟩,hw.s [0]⟩
theorem W96{a0 a1 kT kF kC kW w r F}(h:M96 a0 a1 kT=some r)(hc0:Cls w F [tB kF kC kW kT] w):qz Tryz.prog 96 [VP kC a0,.int .i64 a1] F w fun u m=>∃Q122,u=.int .i64 r.2∧m=[xL kF kC Q122 r.1 []]:=by
 rw[M96]at h
 refine body (n:=11) Tryz.func96 O O O hc0<|sr<|L.r 1 O<|cjf<|L.r 1 O<|neL h (fun c1 h=>?_) fun c1 h=>?_
 ·refine cjg<|ah<|L.r 1 O<|bi1 h fun th2 jU h=>aj (D:=Cls w F [tn kC a0 kF th2,tcR kF kC kW kT a0]) (aoI 0 O jU)<|yNF O jU qbr<|svL 0 [.bool true] sz4 O O O<|nsr<|L.r 2 O<|cjc<|bi1 h fun l3 el3 h=>bL (row:=TLog122.rowA kF) (sub:=TLog122.subA kF) (e:=122) (g:=kC) (gh:=kW) (vs':=[]) (m':=[]) [0,1] el3 O fun q4=>az (D:=Cls w F [tB kF kC q4 l3]) hI<|rT fun w1 hw=>?_
  cases h
  exact⟨_,_,O,⟨_,O,O⟩,hw⟩
 cases h
 exact cji<|L.r 2 O<|cjc<|rT fun w1 hw=>⟨_,_,O,⟨_,O,O⟩,hw⟩
theorem W52{a0 A51 kT kF kC kP kW w r F}(h:M52 a0 A51 kT=some r)(hc0:Cls w F (tbi kF kP A51 kC kW kT) w):qz Tryz.prog 52 [VP kC a0] F w fun u m=>∃Q51 Q122,u=.int .i64 r.2.2∧m=[yS kF Q51 r.1 [],xL kF kC Q122 r.2.1 []]:=by
 rw[M52]at h
 refine body (n:=43) Tryz.func52 O O O hc0<|sr<|L.r 1 O<|cjf<|L.r 1 O<|bi1 h fun th1 kR h=>aj (D:=tbD w F kC a0 kF th1 kW kT kP A51) (aoI 1 O kR)<|yNP O kR jb 0 ag3 O O<|iL h (bU O O) (fun c2 h=>?_) fun c2 h=>?_
 ·cases h
  exact cjb<|L.r 1 O<|cjh<|az (D:=tce w F kF kC kW kT kP A51) (asI [0,1,2] kR O)<|rT fun w1 hw=>⟨_,_,O,⟨_,_,O,O⟩,hw.s [1,0]⟩
 refine cjl<|av (k:=16) (stC [[14]] [tbD w F kC a0 kF th1 kW kT kP A51]<|Cls w F []) O mixed (fun _ hw=>hw.drew) sn<|aA [] (ax zF<|sI []) fun hz29=>(vR [0] O<|vN 1 [] O hz29 O kR<|vQ 2 [] hz29 O (aa wo O)<|aA [14] (be hI) fun hz30=>(vQ 3 [14] hz30 O (am (i:=0) qlx O O O)<|vR [4] O<|vN 5 [] O hz29 O kR<|vQ 6 [] hz29 O (aa qdU O)<|vQ 7 [14] hz30 O (am (i:=0) ag3 O O O)<|vR [8] O<|vN 9 [] O hz29 O kR<|vQ 10 [] hz29 O (aa jb O)<|vQ 11 [14] hz30 O (am (i:=0) ag3 O O O)<|vM 12 [] (fun x31=>.int .i64 x31) hz29 O h (bh O O) fun x31 ex31 h=>(vE 13 O<|bi1 h fun s32 e33 h=>yL (ye O fun w' hw=>W90 e33)<|ltV (stC [[14]] [tbD w F kC a0 kF th1 kW kT kP A51]<|Cls w F []) 13 (sT sD) sn<|vE 14 O<|aj (D:=tce w F kF kC kW kT kP A51) (asI [0,1,2] kR O)<|aj (D:=Cls w F<|tbi kF kP A51 kC kW kT) (sI [1,0])<|bi2 h fun l34 x35 e36 h=>dP [tF kF kP A51] [tB kF kC kW kT] O (fun w' hw=>W94 e36 hw.lend) ?_)))
 rintro _ _ ⟨q37,rfl,rfl⟩
 refine aj (D:=Cls w F<|tbi kF q37 l34 kC kW kT) hI<|ltV (stC [] []<|Cls w F []) 14 (aw O sD) (aP<|sI [])<|vR [15] O<|vD<|ab<|aE<|sr<|L.r 1 O<|eqL h (fun c39 h=>?_) fun c39 h=>?_
 ·refine cjg<|ah<|L.r 1 O<|bi1 h fun th40 eth40 h=>aj (D:=tbD w F kC a0 kF th40 kW kT q37 l34) (aoI 1 O eth40)<|yNP O eth40 wo 0 qlx O O<|aj (D:=tce w F kF kC kW kT q37 l34) (asI [0,1,2] eth40 O)<|aj (D:=Cls w F<|tbi kF q37 l34 kC kW kT) (sI [1,0])<|bi2 h fun l41 x42 e43 h=>dP [tF kF q37 l34] [tB kF kC kW kT] O (fun w' hw=>W95 e43 hw.lend) ?_
  rintro _ _ ⟨q44,rfl,rfl⟩
  refine aj (D:=Cls w F<|tbi kF q44 l41 kC kW kT) hI<|L.r 1 O<|cjf<|L.r 1 O<|eqL h (fun c45 h=>?_) fun c45 h=>?_
  ·refine cjg<|ah<|L.r 1 O<|bi1 h fun xB eth46 h=>aj (D:=tbD w F kC a0 kF xB kW kT q44 l41) (aoI 1 O eth46)<|yNP O eth46 jb 0 ag3 O O<|mA h fun x47 ex47 h=>(yNF O eth46 jb<|svL 0 (tH x47) sz3 O O O<|nsr<|L.r 2 O<|bi1 h fun l48 el48 h=>ez (row:=TLog122.rowA kF) (sub:=TLog122.subA kF) (e:=122) (g:=kC) (gh:=kW) (vs':=[]) (m':=[tF kF q44 l41]) [0,1,2] el48 O fun q49=>aj (D:=tce w F kF kC q49 l48 q44 l41) hI<|bi2 h fun l50 x51 e52 h=>aV (A:=[tB kF kC q49 l48]) (M:=[tF kF q44 l41]) O qgw O (fun w' hw=>W96 e52 hw.lend) ?_)
   rintro _ _ ⟨q53,rfl,rfl⟩
   cases h
   exact aj (D:=tce w F kF kC q53 l50 q44 l41) hI<|L.r 1 O<|cjc<|rT fun w1 hw=>⟨_,_,O,⟨_,_,O,O⟩,hw.s [1,0]⟩
  refine cji<|L.r 2 O<|aj (D:=tce w F kF kC kW kT q44 l41) (sI [1,0])<|bi2 h fun l54 x55 e56 h=>aV (A:=[tB kF kC kW kT]) (M:=[tF kF q44 l41]) O qgw O (fun w' hw=>W96 e56 hw.lend) ?_
  rintro _ _ ⟨q57,rfl,rfl⟩
  cases h
  exact aj (D:=tce w F kF kC q57 l54 q44 l41) hI<|L.r 1 O<|cjc<|rT fun w1 hw=>⟨_,_,O,⟨_,_,O,O⟩,hw.s [1,0]⟩
 refine cjl<|sr<|L.r 1 O<|eqL h (fun c58 h=>?_) fun c58 h=>?_
 ·cases h
 refine cji<|L.r 2 O<|aj (D:=tce w F kF kC kW kT q37 l34) (sI [1,0])<|bi2 h fun l59 x60 e61 h=>aV (A:=[tB kF kC kW kT]) (M:=[tF kF q37 l34]) O qgw O (fun w' hw=>W96 e61 hw.lend) ?_
 rintro _ _ ⟨q62,rfl,rfl⟩
 cases h
 exact aj (D:=tce w F kF kC q62 l59 q37 l34) hI<|L.r 1 O<|cjc<|rT fun w1 hw=>⟨_,_,O,⟨_,_,O,O⟩,hw.s [1,0]⟩
theorem W22{a0 a1 a2 A51 kT kF kC kP kW w r F}(h:M22 a0 a1 a2 A51 kT=some r)(hc0:Cls w F (tbi kF kP A51 kC kW kT) w):qz Tryz.prog 22 (VP kF a0::tcH a1 a2) F w fun u m=>∃G122 Q51 Q122 v1,Gr kC kT.length G122 r.2.1.length∧u=.tuple #[VP G122 r.2.2.1,v1,.int .i64 r.2.2.2.2]∧m=[yS kF Q51 r.1 [],xL kF G122 Q122 r.2.1 [],.sl v1 9 1 (r.2.2.2.1.map SR)]:=by
 rw[M22]at h
 obtain⟨g122,hg122⟩:∃g,g=kC:=⟨_,rfl⟩
 have zB:Gr g122 kT.length kC kT.length:=hg122▸Gr.refl _ _
 refine body (n:=127) Tryz.func22 O O O hc0<|sr<|L.r 3 O<|cjf<|bd 6 (fun gs D=>∃gb1,gs=[(0,VP kF a0),(1,.int .i64 a1),(2,.int .i64 a2),(22,.bool gb1)]∧D=Cls w F (tbi kF kP A51 kC kW kT)∧qdk A51 kT a0 a1 a2 gb1=some r) ?_ ?_
 ·refine L.r 1 O<|ltL h (fun c52 h=>?_) fun c52 h=>?_
  ·exact L.r 4 O<|ae<|ay ⟨true,O,O,h⟩ hI
  refine L.r 2 O<|tkL<|ltL h (fun c53 h=>?_) fun c53 h=>?_
  ·exact L.r 1 O<|ae<|ay ⟨true,O,O,h⟩ hI
  exact L.r 1 O<|ae<|ay ⟨false,O,O,h⟩ hI
 rintro _ _ ⟨gb1,rfl,rfl,h⟩
 rw[qdk]at h
 rcases gb1 with _|_
 ·replace h:=qU h
  refine L.r 3 O<|tkL<|bi1 h fun th1 kR h=>aj (D:=Cls w F<|tat kF a0 kP th1 A51 kC kW kT) (aoI 0 O kR)<|yN O kR<|tkL<|yF ji O<|tkL<|yP 0 wv O O O<|tkL<|yL (aF (g:=SR) (l:=th1.Seen) Tryz.underlying48 O<|aG 1 O)<|tkL<|gtL h (fun c2 h=>?_) fun c2 h=>?_
  ·cases h
   exact L.r 12 O<|cjb<|L.r 3 O<|cjh<|az (D:=Cls w F<|tbi kF kP A51 kC kW kT) (asI [0,1,2,3,4,5,6] kR O)<|rT3 fun w1 hw=>⟨_,_,O,⟨_,_,_,_,(hg122▸zB),O,O⟩,(hw.nilSl 9 1).sel [1,2,0] (by decide) O⟩
  refine L.r 4 O<|tkL<|yN O kR<|tkL<|yF ji O<|tkL<|yP 0 wv O O O<|tkL<|yL (aF (g:=SR) (l:=th1.Seen) Tryz.underlying48 O<|aG 1 O)<|L.r 1 O<|tkL<|mI h (bj O O) fun x3 ex3 h=>(tkL<|gtL h (fun c4 h=>?_) fun c4 h=>?_)
  ·cases h
   exact L.r 1 O<|cjb<|L.r 3 O<|cjh<|az (D:=Cls w F<|tbi kF kP A51 kC kW kT) (asI [0,1,2,3,4,5,6] kR O)<|rT3 fun w1 hw=>⟨_,_,O,⟨_,_,_,_,(hg122▸zB),O,O⟩,(hw.nilSl 9 1).sel [1,2,0] (by decide) O⟩
  refine L.r 1 O<|cjl<|sr<|L.r 1 O<|aj (D:=Cls w F<|tbi kF kP A51 kC kW kT) (asI [0,1,2,3,4,5,6] kR O)<|bi1 h fun b5 e6 h=>dP [tF kF kP A51] [tB kF kC kW kT] O (fun w' hw=>W49 e6 hw.lend) ?_
  rintro _ _ ⟨rfl,rfl⟩
  refine aj (D:=Cls w F<|tbi kF kP A51 kC kW kT) hI ?_
  rcases b5 with _|_
  ·replace h:=qU h
   refine cji<|L.r 1 O<|bi1 h fun th7 jZ h=>aj (D:=Cls w F<|tat kF a0 kP th7 A51 kC kW kT) (aoI 0 O jZ)<|yNP O jZ ji 0 wv O O<|L.r 3 O<|mA h fun x8 ex8 h=>(mL (fun _=>tcL kP a0 x8 a1) h (Y.midM (g:=SR) Tryz.underlying48 sz9 O O O<|aG 1 O) fun l9 el9 h=>(L.r 1 O<|nsr<|L.r 4 O<|mL (fun _=>el (tcL kP a0 x8 a1) tcN) h (ap (g:=SR) (l:=l9) Tryz.underlying48 sz9 O O fun w hw=>((As.at_ (hw.get (i:=1) O)).midM el9)) fun x10 ex10 h=>yL (aB (u:=st x10) ag9 O (fun w hw=>((As.at_ (hw.get (i:=1) O)).midM el9))<|ql ex10)<|bi1 h fun x11 e12 h=>yL (ye O fun w' hw=>W50 e12)<|yL (dm (cells:=#[VP kF a0,.int .i64 a1,.int .i64 a2,.int .i64 x11,.int .i64 1,.int .i64 0,.bool false]) O fun w hw=>by rcases qeO kF a0 with h0|⟨_,h0⟩<;>simp only[h0]<;>kernel_rfl)<|bV O O fun b13=>L.r 1 O<|cjf<|L.r 2 O<|yF jb O<|yP 0 ag3 O O O<|ltL h (fun c14 h=>?_) fun c14 h=>?_))
   ·cases h
    exact cjb<|L.r 3 O<|cjh<|az (D:=Cls w F [tF kF kP A51,.obj b13 [VP kF a0,.int .i64 a1,.int .i64 a2,.int .i64 x11,.int .i64 1,.int .i64 0,.bool false] 122,tB kF kC kW kT]) (asI [1,2,3,4,5,6,0,7] jZ O)<|rT3 fun w1 hw=>⟨_,_,O,⟨_,_,_,_,(hg122▸zB),O,O⟩,(hw.nilSl 9 1).sel [1,3,0] (by decide) O⟩
   refine cji<|L.r 1 O<|nsr<|L.r 1 O<|ae<|ab<|ar (fun gs D=>∃gx2 gv3 gl4 kC gl6 gq7,∃gu8:Unit,gs=[(10,VP kC gx2),(11,gv3)]∧D=Cls w F [tF kF kP A51,tB kF kC gq7 gl6,tl gv3 gl4]∧Gr g122 kT.length kC gl6.length∧qgl A51 gx2 gl4 gl6=some r) ?_ ?_
   ·refine W.block<|W.arNew (rowg:=fun g=>TLog122.rowA kF) (subg:=fun g=>TLog122.subA kF) (e:=122) (g:=kC) (gh:=kW) (l:=kT) (hs:=[]) (b:=b13) (u1:=(⟨a0,a1,a2,x11,1,0,false⟩:TLog122)) (vs':=[]) (m':=(taE kF a0 kP th7 A51)) [0,7,1,2,3,4,5,6] h (by decide) O (fun _ h=>nomatch h) (fun _ _ _ _ _=>⟨O,O⟩) fun kC q23 x24 l25 h hg26 hv27 hi28=>?_
    rw[hv27]
    replace zB:=zB.trans hg26
    refine bC (D:=Cls w F (tB kF kC q23 l25::.obj (kF a0.toNat) [(tc kP a0),(td kP a0),(ts kP a0),(tz kP a0),.int .i64 th7.left_] 51::.sl (tc kP a0) 9 1 (th7.Seen.map SR)::tV kP a0 th7 kF A51)) hI<|W.nilSl 9 1<|au (fun m gs D=>∃gv9 kO jN kY yB,∃gu14:Unit,gs=[(9,tcL kP a0 x8 a1),(10,VP kC x24),(11,gv9),(12,taB jN)]∧D=Cls w F (tB kF kC yB kY::tag kF kP A51 a0 th7 gv9 kO)∧Gr g122 kT.length kC kY.length∧qdi x24 l9 A51 m kO jN kY=some r) ⟨tO,[],0,l25,q23,(),O,O,zB,h⟩ ⟨O,O,O,O,trivial⟩ (sI [1,7,2,3,0,4,5,6]) ?_
    rintro m _ _ ⟨gv9,kO,jN,kY,yB,gu14,rfl,rfl,zB,h⟩
    rcases m with _|m
    ·rw[qdi]at h;cases h
    rw[qdi]at h
    generalize hg1:qdi x24 l9 A51 m=go1 at h
    rw[qh8]at h
    refine W.block<|aE<|bi1 h fun th29 eth29 h=>bC (D:=Cls w F (tn kC x24 kF th29::tcR kF kC yB kY x24::tag kF kP A51 a0 th7 gv9 kO)) (aoI 0 O eth29)<|aZ mixed (by kernel_rfl) (fun _ hw=>hw.drew) fun hC=>(U.r 2 O<|fQ O (aQ O eth29)<|fQ O (aa kd O)<|fQ O (am (i:=0) ag3 O O O)<|fR (V:=fun _=>zh (tcL kP a0 x8 a1) th29.at_.toNat 1) h O (Y.dropM (g:=SR) Tryz.underlying48 sz9 O O fun w hw=>((As.at_ (hw.get (i:=4) O)).midM el9)) fun l30 el30 h=>(U.r 1 O<|fQ O (aQ O eth29)<|fQ O (aa vk O)<|fQ O (am (i:=0) ag3 O O O)<|bi3 h fun x31 s32 x33 e34 h=>fQ O (ye O fun w' hw=>W51 e34 ((((As.at_ (hw.get (i:=4) O)).midM el9).dropM el30)))<|U.r 7 O<|bo<|ab<|aE<|sr<|bd 7 (fun gs D=>∃jH,gs=[(9,tcL kP a0 x8 a1),(10,VP kC x24),(11,gv9),(13,.int .i64 x31),(14,st s32),(15,.int .i64 x33),(89,.bool jH)]∧D=Cls w F (tB kF kC yB kY::tag kF kP A51 a0 th7 gv9 kO)∧qdj A51 x24 kO kY x31 s32 x33 go1 jH=some r) ?_ ?_))
    ·refine L.r 1 O<|eqL h (fun c50 h=>?_) fun c50 h=>?_
     ·exact L.r 5 O<|aj (D:=Cls w F (tB kF kC yB kY::tag kF kP A51 a0 th7 gv9 kO)) (asI [0,1,2,3,4,5,6,7,8] eth29 O)<|ae<|ay ⟨true,O,O,h⟩ hI
     refine L.r 3 O<|tkL<|ltL h (fun c51 h=>?_) fun c51 h=>?_
     ·exact L.r 1 O<|aj (D:=Cls w F (tB kF kC yB kY::tag kF kP A51 a0 th7 gv9 kO)) (asI [0,1,2,3,4,5,6,7,8] eth29 O)<|ae<|ay ⟨true,O,O,h⟩ hI
     exact L.r 1 O<|aj (D:=Cls w F (tB kF kC yB kY::tag kF kP A51 a0 th7 gv9 kO)) (asI [0,1,2,3,4,5,6,7,8] eth29 O)<|ae<|ay ⟨false,O,O,h⟩ hI
    rintro _ _ ⟨jH,rfl,rfl,h⟩
    rw[qdj]at h
    rcases jH with _|_
    ·replace h:=qU h
     refine L.r 3 O<|tkL<|bi1 h fun th35 eth35 h=>aj (D:=Cls w F (tn kC x24 kF th35::tcR kF kC yB kY x24::tag kF kP A51 a0 th7 gv9 kO)) (aoI 0 O eth35)<|yN O eth35<|tkL<|yF jb O<|tkL<|yP 0 ag3 O O O<|tkL<|gtL h (fun c36 h=>?_) fun c36 h=>?_
     ·exact L.r 1 O<|cjg<|cr<|bH<|cC O<|dA<|bJ<|az (D:=Cls w F (tB kF kC yB kY::tag kF kP A51 a0 th7 gv9 kO)) (asI [0,1,2,3,4,5,6,7,8] eth35 O)<|az (D:=Cls w F [tF kF kP A51,tB kF kC yB kY,tl gv9 kO]) (asI [2,3,5,6,7,1,0,4] jZ O)<|ay ⟨x24,gv9,kO,kC,kY,yB,(),O,O,zB,h⟩ hI
     exact L.r 1 O<|cji<|L.r 2 O<|aI O Tryz.underlying48 eL9 O O fun b37=>bc (i:=6) (g:=SR) (l:=kO) (more:=[s32]) h O Tryz.underlying48 eL9 O O O (aG 0 O) (qi _) O fun v38 l39 el39 h=>L.r 1 O<|ln<|av (k:=21) (stC [[17]] [Cls w F (tl v38 l39::tu b37 s32::tn kC x24 kF th35::tcR kF kC yB kY x24::tak kF kP A51 a0 th7)]<|Cls w F (tl v38 l39::tu b37 s32::tcR kF kC yB kY x24::tak kF kP A51 a0 th7)) O mixed (fun _ hw=>hw.drew) sn<|aA [] (ax zF<|sI [0,1,3,4,5,6,7,8,9]) fun hz43=>(vR [0,1,2,3] O<|vN 4 [] O hz43 O eth35<|vQ 5 [] hz43 O (aa kd O)<|aA [17] (be hI) fun hz44=>(vQ 6 [17] hz44 O (am (i:=2) ag3 O O O)<|vR [7] O<|vM 8 [] (fun x45=>.int .i64 x45) hz43 O h (bh O O) fun x45 ex45 h=>(vR [9] O<|vN 10 [] O hz43 O eth35<|vQ 11 [] hz43 O (aa vk O)<|vQ 12 [17] hz44 O (am (i:=2) ag3 O O O)<|vM 13 [] (fun x46=>.int .i64 x46) hz43 O h (bh O O) fun x46 ex46 h=>(vR [14] O<|vN 15 [] O hz43 O eth35<|vQ 16 [] hz43 O (aa kd O)<|vE 17 O<|svL 2 (tH x45) sz3 O O O<|ltV (stC [] []<|Cls w F (tl v38 l39::tu b37 s32::tcR kF kC yB kY x24::tak kF kP A51 a0 th7)) 17 (aw O sD) (aP<|sI [0,1,3,4,5,6,7,8,9])<|aA [] zF fun hz47=>(vN 18 [] O hz47 O eth35<|vQ 19 [] hz47 O (aa vk O)<|vE 20 O<|svL 2 (tH x46) sz3 O O O<|ltV (stC [] []<|Cls w F (tl v38 l39::tu b37 s32::tcR kF kC yB kY x24::tak kF kP A51 a0 th7)) 20 sD (aP<|sI [0,1,3,4,5,6,7,8,9])<|vD<|aq<|bi1 h fun l48 el48 h=>bL (row:=TLog122.rowA kF) (sub:=TLog122.subA kF) (e:=122) (g:=kC) (gh:=yB) (vs':=[]) (m':=(tl v38 l39::tu b37 s32::tak kF kP A51 a0 th7)) [2,3,0,1,4,5,6,7,8,9] el48 O fun q49=>have zB:=zB.upd el48;az (D:=Cls w F (tB kF kC q49 l48::tl v38 l39::tu b37 s32::tak kF kP A51 a0 th7)) hI<|bi ⟨v38,l39,x31,l48,q49,(),O,O,zB,by rw[hg1];exact h⟩<|sI [0,3,4,5,1,6,7,8])))))
    replace h:=qT h
    exact L.r 8 O<|cjg<|cr<|bH<|cC O<|dA<|bJ<|az (D:=Cls w F [tF kF kP A51,tB kF kC yB kY,tl gv9 kO]) (asI [2,3,5,6,7,1,0,4] jZ O)<|ay ⟨x24,gv9,kO,kC,kY,yB,(),O,O,zB,h⟩ hI
   rintro _ _ ⟨gx2,gv3,gl4,kC,gl6,gq7,gu8,rfl,rfl,zB,h⟩
   rw[qgl]at h
   refine aE<|sr<|L.r 1 O<|bi3 h fun l15 l16 x17 e18 h=>dP (tbi kF kP A51 kC gq7 gl6) [tl gv3 gl4] O (fun w' hw=>W52 e18 hw.lend) ?_
   rintro _ _ ⟨q19,q20,rfl,rfl⟩
   obtain⟨_,c21,h⟩:=qq h
   replace zB:=zB.len (qw c21)
   refine aj (D:=Cls w F [tF kF q19 l15,tB kF kC q20 l16,tl gv3 gl4]) hI<|L.r 1 O<|nsr<|L.r 1 O<|neL h (fun c22 h=>?_) fun c22 h=>?_
   ·cases h
    exact cjb<|L.r 4 O<|cjh<|rT3 fun w1 hw=>⟨_,_,O,⟨_,_,_,_,(hg122▸zB),O,O⟩,(hw.nilSl 9 1).sel [1,2,0] (by decide) O⟩
   cases h
   exact cji<|L.r 5 O<|cjc<|rT3 fun w1 hw=>⟨_,_,O,⟨_,_,_,_,(hg122▸zB),O,O⟩,hw⟩
  replace h:=qT h
  cases h
  exact cjb<|L.r 3 O<|cjh<|rT3 fun w1 hw=>⟨_,_,O,⟨_,_,_,_,(hg122▸zB),O,O⟩,(hw.nilSl 9 1).sel [1,2,0] (by decide) O⟩
 replace h:=qT h
 cases h
 exact L.r 20 O<|cjb<|L.r 3 O<|cjh<|rT3 fun w1 hw=>⟨_,_,O,⟨_,_,_,_,(hg122▸zB),O,O⟩,(hw.nilSl 9 1).sel [1,2,0] (by decide) O⟩
theorem W54{a0 w r}(h:M54 a0=some r):Does Tryz.prog 54 [st a0] w fun u m=>u=.tuple #[st r.1,.int .i64 r.2.1,.int .i64 r.2.2]∧m=[]:=by
 rw[M54]at h
 refine body (n:=37) Tryz.func54 O O O (Cls.refl w)<|sr<|L.r 3 O<|nsr<|L.r 1 O<|bi3 h fun x1 x2 x3 e4 h=>yL (ye O fun w' hw=>W91 e4)<|L.r 7 O<|cjf<|L.r 1 O<|neL h (fun c5 h=>?_) fun c5 h=>?_
 ·cases h
  exact cjb<|L.r 4 O<|cjh<|rT3 d0
 refine cjl<|sr<|L.r 1 O<|gtL h (fun c6 h=>?_) fun c6 h=>?_
 ·cases h
  exact cjb<|L.r 3 O<|cjh<|rT3 d0
 refine cjl<|sr<|L.r 1 O<|yL (aK Tryz.underlying9 O)<|L.r 1 O<|mI h (bj O O) fun x7 ex7 h=>(L.r 1 O<|yL (a7 Tryz.underlying156 Tryz.underlying3 O)<|ltL h (fun c8 h=>?_) fun c8 h=>?_)
 ·cases h
  exact cjb<|L.r 3 O<|cjh<|rT3 d0
 refine cji<|L.r 4 O<|yL (a7 Tryz.underlying156 Tryz.underlying3 O)<|mA h fun x9 ex9 h=>(mL (fun s10=>st s10) h (cQ Tryz.underlying9 O O O) fun s10 es10 h=>(L.r 2 O<|yL (a7 Tryz.underlying156 Tryz.underlying3 O)<|mA h fun x11 ex11 h=>L.r 3 O<|cjc<|rT3 fun w1 hw=>?_))
 cases h
 exact⟨_,_,O,⟨O,O⟩,hw⟩
theorem W23{a0 u0 w r}(h:M23 a0=some r)(hA0:At w u0 1 (a0.map SR)):Does Tryz.prog 23 [u0] w fun u m=>u=.tuple #[.int .i64 r.1,.bool r.2.1,.agg (r.2.2.1.map SR).flatten.toArray,.bool r.2.2.2]∧m=[]:=by
 rw[M23]at h
 refine body (n:=122) Tryz.func23 O O O (Cls.refl w)<|sr<|L.r 2 O<|L.alloc O qis fun b1=>aj (D:=Cls w [] [tK b1]) (fun _ hw=>by first|exact hw|simpa [I,B,SR]using hw)<|L.r 1 O<|nsr<|L.r 1 O<|ln<|ar (fun gs D=>∃gx1 gb2 gl3,gs=[(2,.int .i64 gx1),(3,.bool gb2),(4,pt b1 0)]∧D=Cls w [] [tD b1 gl3]∧qjA gx1 gb2 gl3=some r) ?_ ?_
 ·refine sr<|L.r 1 O<|yL (aF (g:=SR) (l:=a0) Tryz.underlying48 O fun w' hw=>hA0.cls0 hw)<|L.r 1 O<|cjp<|au (fun m gs D=>∃gx4 gb5 gx6 gl7,gs=((2,.int .i64 gx4)::(3,.bool gb5)::(4,pt b1 0)::tbl u0 a0 gx6)∧D=Cls w [] [tD b1 gl7]∧ki a0 m gx4 gb5 gx6 gl7=some r) ⟨0,true,0,tap,O,O,h⟩ ⟨O,O,O,O,O,O,trivial⟩ hI ?_
  rintro m _ _ ⟨gx4,gb5,gx6,gl7,rfl,rfl,h⟩
  rcases m with _|m
  ·rw[ki]at h;cases h
  rw[ki]at h
  generalize hg1:ki a0 m=go1 at h
  rw[qfr]at h
  refine sr<|ltL h (fun c14 h=>?_) fun c14 h=>?_
  ·refine cjm<|aX O<|aN<|ab<|ar (fun gs D=>∃gx8 gb9 kO,gs=((2,.int .i64 gx8)::(3,.bool gb9)::(4,pt b1 0)::tbl u0 a0 gx6)∧D=Cls w [] [tD b1 kO]∧qdh gx6 go1 gx8 gb9 kO=some r) ?_ ?_
   ·refine W.block<|sr<|L.r 1 O<|mL (fun _=>el u0<|tbG gx6) h (ap (g:=SR) (l:=a0) Tryz.underlying48 sz9 O O fun w' hw=>hA0.cls0 hw) fun x17 ex17 h=>(yL (aB (u:=st x17) ag9 O (fun w' hw=>hA0.cls0 hw)<|ql ex17)<|L.r 2 O<|cjp<|ar (fun gs D=>∃jF,gs=[(2,.int .i64 gx4),(3,.bool gb5),(4,pt b1 0),(7,st x17),(17,u0),(18,.int .i64 (a0.length:Int)),(19,.int .i64 gx6),(25,.bool jF)]∧D=Cls w [] [tD b1 gl7]∧qbT x17 gl7 gx6 go1 gb5 gx4 jF=some r) ?_ ?_)
    ·refine ah<|bd 6 (fun gs D=>∃xZ,gs=[(2,.int .i64 gx4),(3,.bool gb5),(4,pt b1 0),(7,st x17),(17,u0),(18,.int .i64 (a0.length:Int)),(19,.int .i64 gx6),(31,.bool xZ)]∧D=Cls w [] [tD b1 gl7]∧kz x17 gl7 gx6 go1 gb5 gx4 xZ=some r) ?_ ?_
     ·refine L.r 1 O<|eqL h (fun c105 h=>?_) fun c105 h=>?_
      ·refine L.r 2 O<|tkL<|bi1 h fun b106 e107 h=>yL (yf qmR O fun w' hw=>W39 e107) ?_
       rcases b106 with _|_
       ·replace h:=qU h
        exact L.r 1 O<|ae<|ay ⟨false,O,O,h⟩ hI
       replace h:=qT h
       exact L.r 1 O<|ae<|ay ⟨true,O,O,h⟩ hI
      exact L.r 4 O<|ae<|ay ⟨false,O,O,h⟩ hI
     rintro _ _ ⟨xZ,rfl,rfl,h⟩
     rw[kz]at h
     rcases xZ with _|_
     ·replace h:=qU h
      exact L.r 1 O<|ae<|ay ⟨false,O,O,h⟩ hI
     replace h:=qT h
     exact L.r 1 O<|ae<|ay ⟨true,O,O,h⟩ hI
    rintro _ _ ⟨jF,rfl,rfl,h⟩
    rw[qbT]at h
    rcases jF with _|_
    ·replace h:=qU h
     refine a6 O<|sr<|bd 6 (fun gs D=>∃jP,gs=[(2,.int .i64 gx4),(3,.bool gb5),(4,pt b1 0),(7,st x17),(17,u0),(18,.int .i64 (a0.length:Int)),(19,.int .i64 gx6),(60,.bool jP)]∧D=Cls w [] [tD b1 gl7]∧qd9 gx6 go1 gx4 gl7 x17 gb5 jP=some r) ?_ ?_
     ·refine L.r 1 O<|iL h (bO O O) (fun c82 h=>?_) fun c82 h=>?_
      ·refine L.r 1 O<|tkL<|ibL h (bv O) (fun c83 h=>?_) fun c83 h=>?_
       ·exact tkL<|yL (bf O)<|L.r 1 O<|ae<|ay ⟨false,O,O,h⟩ hI
       exact tkL<|yL (bf O)<|L.r 1 O<|ae<|ay ⟨true,O,O,h⟩ hI
      exact L.r 4 O<|ae<|ay ⟨false,O,O,h⟩ hI
     rintro _ _ ⟨jP,rfl,rfl,h⟩
     rw[qd9]at h
     rcases jP with _|_
     ·replace h:=qU h
      refine L.r 1 O<|ln<|a6 O<|ar (fun gs D=>∃yD,gs=[(2,.int .i64 gx4),(3,.bool gb5),(4,pt b1 0),(7,st x17),(17,u0),(18,.int .i64 (a0.length:Int)),(19,.int .i64 gx6),(61,.bool yD)]∧D=Cls w [] [tD b1 gl7]∧qav x17 gx6 go1 gx4 gb5 gl7 yD=some r) ?_ ?_
      ·refine sr<|bd 6 (fun gs D=>∃gb17,gs=[(2,.int .i64 gx4),(3,.bool gb5),(4,pt b1 0),(7,st x17),(17,u0),(18,.int .i64 (a0.length:Int)),(19,.int .i64 gx6),(67,.bool gb17)]∧D=Cls w [] [tD b1 gl7]∧qd8 x17 gx6 go1 gx4 gb5 gl7 gb17=some r) ?_ ?_
       ·refine L.r 1 O<|bi1 h fun b79 e80 h=>yL (yf qmR O fun w' hw=>W39 e80) ?_
        rcases b79 with _|_
        ·replace h:=qU h
         exact L.r 4 O<|ae<|ay ⟨false,O,O,h⟩ hI
        replace h:=qT h
        refine L.r 1 O<|tkL<|ibL h (bv O) (fun c81 h=>?_) fun c81 h=>?_
        ·exact tkL<|yL (bf O)<|L.r 1 O<|ae<|ay ⟨false,O,O,h⟩ hI
        exact tkL<|yL (bf O)<|L.r 1 O<|ae<|ay ⟨true,O,O,h⟩ hI
       rintro _ _ ⟨gb17,rfl,rfl,h⟩
       rw[qd8]at h
       rcases gb17 with _|_
       ·replace h:=qU h
        refine L.r 1 O<|ln<|a6 O<|ah<|bd 5 (fun gs D=>∃gb18,gs=[(2,.int .i64 gx4),(3,.bool gb5),(4,pt b1 0),(7,st x17),(17,u0),(18,.int .i64 (a0.length:Int)),(19,.int .i64 gx6),(72,.bool gb18)]∧D=Cls w [] [tD b1 gl7]∧qd7 x17 gx6 go1 gx4 gb5 gl7 gb18=some r) ?_ ?_
        ·refine L.r 1 O<|bi1 h fun b76 e77 h=>yL (yf qmR O fun w' hw=>W39 e77) ?_
         rcases b76 with _|_
         ·replace h:=qU h
          exact L.r 3 O<|ae<|ay ⟨false,O,O,h⟩ hI
         replace h:=qT h
         refine L.r 1 O<|tkL<|ibL h (bv O) (fun c78 h=>?_) fun c78 h=>?_
         ·exact L.r 1 O<|ae<|ay ⟨true,O,O,h⟩ hI
         exact L.r 1 O<|ae<|ay ⟨false,O,O,h⟩ hI
        rintro _ _ ⟨gb18,rfl,rfl,h⟩
        rw[qd7]at h
        rcases gb18 with _|_
        ·replace h:=qU h
         exact L.r 1 O<|ae<|ay ⟨false,O,O,h⟩ hI
        replace h:=qT h
        exact L.r 1 O<|ae<|ay ⟨true,O,O,h⟩ hI
       replace h:=qT h
       exact L.r 1 O<|cjg<|aN<|ay ⟨true,O,O,h⟩ hI
      rintro _ _ ⟨yD,rfl,rfl,h⟩
      rw[qav]at h
      rcases yD with _|_
      ·replace h:=qU h
       refine a6 O<|aE<|av (k:=5) (tbm w b1 gl7) O mixed (fun _ hw=>hw.drew) sA<|aA [] zF fun hz18=>bi1 h fun _ en19 h=>?_
       obtain⟨_,en19⟩:=qd en19
       refine vQ 0 [] hz18 O (a8 (q:=0) (row:=SR) (k:=1) wG xu O O (fun _=>O) (by rw[en19]))<|vR [1,2] O<|vE 3 O<|bi1 h fun _ en20 h=>?_
       obtain⟨_,en20⟩:=qd en20
       obtain⟨_,en21,h⟩:=qq h
       obtain⟨_,en21⟩:=qd en21
       refine aY (i:=0) (row:=SR) (k:=1) en20 en21 O (fun _=>O) (qi _) xu O O O<|ltV (tbm w b1 gl7) 3 sD sA<|vR [4] O<|vD<|ab<|bK<|ak<|cjo<|bi1 h fun _ en23 h=>?_
       obtain⟨_,en23⟩:=qd en23
       cases h
       exact bT O (aL O) (aL O) (br (i:=0) (row:=SR) (k:=1) wG xu O O (fun _=>O) (by rw[en23])) (aL O)<|d0s []
      replace h:=qT h
      refine aX O<|sr<|L.r 1 O<|mL (fun s24=>st s24) h (aU Tryz.underlying9 O O) fun s24 es24 h=>(L.r 1 O<|cjp<|au (fun m gs D=>∃gs14 kX,gs=((2,.int .i64 gx4)::(3,.bool gb5)::(4,pt b1 0)::(11,st gs14)::tbl u0 a0 gx6)∧D=Cls w [] [tD b1 kX]∧qau gx6 go1 gx4 gb5 m gs14 kX=some r) ⟨s24,gl7,O,O,h⟩ ⟨O,O,O,O,O,O,O,trivial⟩ hI ?_)
      rintro m _ _ ⟨gs14,kX,rfl,rfl,h⟩
      rcases m with _|m
      ·rw[qau]at h;cases h
      rw[qau]at h
      generalize hg2:qau gx6 go1 gx4 gb5 m=go2 at h
      rw[qh7]at h
      refine aE<|sr<|L.r 1 O<|iL h (bN O O) (fun c25 h=>?_) fun c25 h=>?_
      ·refine cjg<|aN<|ab<|W.block<|sr<|L.r 1 O<|bi3 h fun x26 x27 x28 e29 h=>yL (yf qiY O fun w' hw=>W53 e29)<|L.r 7 O<|cjf<|bd 6 (fun gs D=>∃gb16,gs=[(2,.int .i64 gx4),(3,.bool gb5),(4,pt b1 0),(11,st gs14),(12,.int .i64 x26),(13,.int .i64 x27),(17,u0),(18,.int .i64 (a0.length:Int)),(19,.int .i64 gx6),(88,.bool gb16)]∧D=Cls w [] [tD b1 kX]∧qdg kX x26 gs14 x27 go2 gb16=some r) ?_ ?_
       ·refine L.r 1 O<|neL h (fun c74 h=>?_) fun c74 h=>?_
        ·exact L.r 4 O<|ae<|ay ⟨true,O,O,h⟩ hI
        refine L.r 2 O<|tkL<|ltL h (fun c75 h=>?_) fun c75 h=>?_
        ·exact L.r 1 O<|ae<|ay ⟨true,O,O,h⟩ hI
        exact L.r 1 O<|ae<|ay ⟨false,O,O,h⟩ hI
       rintro _ _ ⟨gb16,rfl,rfl,h⟩
       rw[qdg]at h
       rcases gb16 with _|_
       ·replace h:=qU h
        refine L.r 2 O<|tkL<|gtL h (fun c30 h=>?_) fun c30 h=>?_
        ·refine L.r 1 O<|cjg<|aE<|av (k:=5) (tbm w b1 kX) O mixed (fun _ hw=>hw.drew) sA<|aA [] zF fun hz31=>bi1 h fun _ en32 h=>?_
         obtain⟨_,en32⟩:=qd en32
         refine vQ 0 [] hz31 O (a8 (q:=0) (row:=SR) (k:=1) wG xu O O (fun _=>O) (by rw[en32]))<|vR [1,2] O<|vE 3 O<|bi1 h fun _ en33 h=>?_
         obtain⟨_,en33⟩:=qd en33
         obtain⟨_,en34,h⟩:=qq h
         obtain⟨_,en34⟩:=qd en34
         refine aY (i:=0) (row:=SR) (k:=1) en33 en34 O (fun _=>O) (qi _) xu O O O<|ltV (tbm w b1 kX) 3 sD sA<|vR [4] O<|vD<|ab<|bK<|aM<|ak<|cH<|ak<|ak<|cjo<|bi1 h fun _ en36 h=>?_
         obtain⟨_,en36⟩:=qd en36
         cases h
         exact bT O (aL O) (aL O) (br (i:=0) (row:=SR) (k:=1) wG xu O O (fun _=>O) (by rw[en36])) (aL O)<|d0s []
        refine L.r 1 O<|cji<|L.r 2 O<|mL (fun s37=>st s37) h (aU Tryz.underlying9 O O) fun s37 es37 h=>bi3 h fun s38 x39 x40 e41 h=>yL (ye O fun w' hw=>W54 e41)<|L.r 7 O<|cjf<|L.r 1 O<|neL h (fun c42 h=>?_) fun c42 h=>?_
        ·refine L.r 5 O<|cjg<|aE<|av (k:=5) (tbm w b1 kX) O mixed (fun _ hw=>hw.drew) sA<|aA [] zF fun hz43=>bi1 h fun _ en44 h=>?_
         obtain⟨_,en44⟩:=qd en44
         refine vQ 0 [] hz43 O (a8 (q:=0) (row:=SR) (k:=1) wG xu O O (fun _=>O) (by rw[en44]))<|vR [1,2] O<|vE 3 O<|bi1 h fun _ en45 h=>?_
         obtain⟨_,en45⟩:=qd en45
         obtain⟨_,en46,h⟩:=qq h
         obtain⟨_,en46⟩:=qd en46
         refine aY (i:=0) (row:=SR) (k:=1) en45 en46 O (fun _=>O) (qi _) xu O O O<|ltV (tbm w b1 kX) 3 sD sA<|vR [4] O<|vD<|ab<|bK<|aM<|ak<|cH<|ak<|ak<|cjo<|bi1 h fun _ qeG h=>?_
         obtain⟨_,qeG⟩:=qd qeG
         cases h
         exact bT O (aL O) (aL O) (br (i:=0) (row:=SR) (k:=1) wG xu O O (fun _=>O) (by rw[qeG])) (aL O)<|d0s []
        refine L.r 2 O<|tkL<|yL (aK Tryz.underlying9 O)<|tkL<|gtL h (fun c49 h=>?_) fun c49 h=>?_
        ·refine L.r 1 O<|cjg<|aE<|av (k:=5) (tbm w b1 kX) O mixed (fun _ hw=>hw.drew) sA<|aA [] zF fun hz50=>bi1 h fun _ en51 h=>?_
         obtain⟨_,en51⟩:=qd en51
         refine vQ 0 [] hz50 O (a8 (q:=0) (row:=SR) (k:=1) wG xu O O (fun _=>O) (by rw[en51]))<|vR [1,2] O<|vE 3 O<|bi1 h fun _ en52 h=>?_
         obtain⟨_,en52⟩:=qd en52
         obtain⟨_,qiY,h⟩:=qq h
         obtain⟨_,qiY⟩:=qd qiY
         refine aY (i:=0) (row:=SR) (k:=1) en52 qiY O (fun _=>O) (qi _) xu O O O<|ltV (tbm w b1 kX) 3 sD sA<|vR [4] O<|vD<|ab<|bK<|aM<|ak<|cH<|ak<|ak<|cjo<|bi1 h fun _ en55 h=>?_
         obtain⟨_,en55⟩:=qd en55
         cases h
         exact bT O (aL O) (aL O) (br (i:=0) (row:=SR) (k:=1) wG xu O O (fun _=>O) (by rw[en55])) (aL O)<|d0s []
        exact L.r 1 O<|cja<|ab<|av (k:=10) (stC [[8]] [Cls w [] [tD b1 kX]]<|Cls w [] []) O mixed (fun _ hw=>hw.drew) sn<|aA [] (ax zF<|sI []) fun hz61=>(vR [0,1,2,3,4] O<|vM 5 [] (fun x62=>.int .i64 x62) hz61 O h (bh O O) fun x62 ex62 h=>(vM 6 [] (fun s63=>st s63) hz61 O h (aU Tryz.underlying9 O O) fun s63 es63 h=>(aA [8] (be hI) fun hz64=>(vM 7 [8] (fun _=>pt b1 (0+x26.toNat*1)) hz64 O h (cA (l:=kX) Tryz.underlying46 sz9 O O) fun x65 ex65 h=>(vE 8 O<|cj (q:=0) (row:=SR) (vs:=[st s38]) (j:=0) (u1:=s38) h sz9 O O O O O (qW O zg) O (fun _=>O) (qm ex65) O O fun l66 el66 h=>ltV (stC [] []<|Cls w [] []) 8 (aw O sD) (aP<|sI [])<|vR [9] O<|vD<|aq<|bi ⟨s63,l66,O,O,by rw[hg2];exact h⟩ hI)))))
       replace h:=qT h
       refine L.r 4 O<|cjg<|aE<|av (k:=5) (tbm w b1 kX) O mixed (fun _ hw=>hw.drew) sA<|aA [] zF fun hz68=>bi1 h fun _ en69 h=>?_
       obtain⟨_,en69⟩:=qd en69
       refine vQ 0 [] hz68 O (a8 (q:=0) (row:=SR) (k:=1) wG xu O O (fun _=>O) (by rw[en69]))<|vR [1,2] O<|vE 3 O<|bi1 h fun _ en70 h=>?_
       obtain⟨_,en70⟩:=qd en70
       obtain⟨_,en71,h⟩:=qq h
       obtain⟨_,en71⟩:=qd en71
       refine aY (i:=0) (row:=SR) (k:=1) en70 en71 O (fun _=>O) (qi _) xu O O O<|ltV (tbm w b1 kX) 3 sD sA<|vR [4] O<|vD<|ab<|bK<|aM<|ak<|cH<|ak<|ak<|cjo<|bi1 h fun _ en73 h=>?_
       obtain⟨_,en73⟩:=qd en73
       cases h
       exact bT O (aL O) (aL O) (br (i:=0) (row:=SR) (k:=1) wG xu O O (fun _=>O) (by rw[en73])) (aL O)<|d0s []
      exact ln<|cjd<|aq<|aq<|ay ⟨gx4,gb5,kX,O,O,h⟩ hI
     replace h:=qT h
     exact L.r 1 O<|cjg<|ah<|L.r 1 O<|ae<|aq<|aq<|ay ⟨gx4,true,gl7,O,O,h⟩ hI
    replace h:=qT h
    refine aX O<|sr<|L.r 1 O<|mL (fun s84=>st s84) h (aU Tryz.underlying9 O O) fun s84 es84 h=>bi3 h fun x85 x86 x87 e88 h=>yL (yf qiY O fun w' hw=>W53 e88)<|L.r 7 O<|cjf<|bd 9 (fun gs D=>∃xX,gs=[(4,pt b1 0),(8,.int .i64 x85),(17,u0),(18,.int .i64 (a0.length:Int)),(19,.int .i64 gx6),(47,.bool xX)]∧D=Cls w [] [tD b1 gl7]∧qdf gl7 x85 gx6 go1 xX=some r) ?_ ?_
    ·refine L.r 1 O<|neL h (fun c102 h=>?_) fun c102 h=>?_
     ·exact L.r 7 O<|ae<|ay ⟨true,O,O,h⟩ hI
     refine L.r 3 O<|tkL<|yL (aK Tryz.underlying9 O)<|tkL<|mL (fun x103=>taB x103) h (bj O O) fun x103 ex103 h=>(tkL<|neL h (fun c104 h=>?_) fun c104 h=>?_)
     ·exact L.r 1 O<|ae<|ay ⟨true,O,O,h⟩ hI
     exact L.r 1 O<|ae<|ay ⟨false,O,O,h⟩ hI
    rintro _ _ ⟨xX,rfl,rfl,h⟩
    rw[qdf]at h
    rcases xX with _|_
    ·replace h:=qU h
     refine L.r 2 O<|tkL<|ltL h (fun c89 h=>?_) fun c89 h=>?_
     ·refine L.r 1 O<|cjg<|aE<|av (k:=5) (tbm w b1 gl7) O mixed (fun _ hw=>hw.drew) sA<|aA [] zF fun hz90=>bi1 h fun _ en91 h=>?_
      obtain⟨_,en91⟩:=qd en91
      refine vQ 0 [] hz90 O (a8 (q:=0) (row:=SR) (k:=1) wG xu O O (fun _=>O) (by rw[en91]))<|vR [1,2] O<|vE 3 O<|bi1 h fun _ en92 h=>?_
      obtain⟨_,en92⟩:=qd en92
      obtain⟨_,en93,h⟩:=qq h
      obtain⟨_,en93⟩:=qd en93
      refine aY (i:=0) (row:=SR) (k:=1) en92 en93 O (fun _=>O) (qi _) xu O O O<|ltV (tbm w b1 gl7) 3 sD sA<|vR [4] O<|vD<|ab<|bK<|aM<|ak<|cjo<|bi1 h fun _ en95 h=>?_
      obtain⟨_,en95⟩:=qd en95
      cases h
      exact bT O (aL O) (aL O) (br (i:=0) (row:=SR) (k:=1) wG xu O O (fun _=>O) (by rw[en95])) (aL O)<|d0s []
     exact L.r 1 O<|cja<|ab<|ah<|L.r 3 O<|ae<|aq<|aq<|ay ⟨x85,false,gl7,O,O,h⟩ hI
    replace h:=qT h
    refine L.r 4 O<|cjg<|aE<|av (k:=5) (tbm w b1 gl7) O mixed (fun _ hw=>hw.drew) sA<|aA [] zF fun hz96=>bi1 h fun _ en97 h=>?_
    obtain⟨_,en97⟩:=qd en97
    refine vQ 0 [] hz96 O (a8 (q:=0) (row:=SR) (k:=1) wG xu O O (fun _=>O) (by rw[en97]))<|vR [1,2] O<|vE 3 O<|bi1 h fun _ en98 h=>?_
    obtain⟨_,en98⟩:=qd en98
    obtain⟨_,en99,h⟩:=qq h
    obtain⟨_,en99⟩:=qd en99
    refine aY (i:=0) (row:=SR) (k:=1) en98 en99 O (fun _=>O) (qi _) xu O O O<|ltV (tbm w b1 gl7) 3 sD sA<|vR [4] O<|vD<|ab<|bK<|aM<|ak<|cjo<|bi1 h fun _ en101 h=>?_
    obtain⟨_,en101⟩:=qd en101
    cases h
    exact bT O (aL O) (aL O) (br (i:=0) (row:=SR) (k:=1) wG xu O O (fun _=>O) (by rw[en101])) (aL O)<|d0s []
   rintro _ _ ⟨gx8,gb9,kO,rfl,rfl,h⟩
   rw[qdh]at h
   rcases gb9 with _|_
   ·replace h:=qU h
    exact ah<|mA h fun x15 ex15 h=>(L.r 1 O<|ae<|bi ⟨gx8,false,x15,kO,O,O,by rw[hg1];exact h⟩ hI)
   replace h:=qT h
   exact ah<|mA h fun x16 ex16 h=>(L.r 1 O<|ae<|bi ⟨gx8,true,x16,kO,O,O,by rw[hg1];exact h⟩ hI)
  exact cjm<|cjd<|ay ⟨gx4,gb5,gl7,O,O,h⟩ hI
 rintro _ _ ⟨gx1,gb2,gl3,rfl,rfl,h⟩
 rw[qjA]at h
 rcases gb2 with _|_
 ·replace h:=qU h
  refine aE<|av (k:=7) (tbm w b1 gl3) O mixed (fun _ hw=>hw.drew) sA<|aA [] zF fun hz2=>(vR [0,1] O<|bi1 h fun _ en3 h=>?_)
  obtain⟨_,en3⟩:=qd en3
  refine vQ 2 [] hz2 O (a8 (q:=0) (row:=SR) (k:=1) wG xu O O (fun _=>O) (by rw[en3]))<|vR [3,4] O<|vE 5 O<|bi1 h fun _ en4 h=>?_
  obtain⟨_,en4⟩:=qd en4
  obtain⟨_,en5,h⟩:=qq h
  obtain⟨_,en5⟩:=qd en5
  refine aY (i:=0) (row:=SR) (k:=1) en4 en5 O (fun _=>O) (qi _) xu O O O<|ltV (tbm w b1 gl3) 5 sD sA<|vR [6] O<|vD<|ab<|bK<|bi1 h fun _ en7 h=>?_
  obtain⟨_,en7⟩:=qd en7
  cases h
  exact bT O (aL O) (aL O) (br (i:=0) (row:=SR) (k:=1) wG xu O O (fun _=>O) (by rw[en7])) (aL O)<|d0s []
 replace h:=qT h
 refine aE<|av (k:=7) (tbm w b1 gl3) O mixed (fun _ hw=>hw.drew) sA<|aA [] zF fun hz8=>(vR [0,1] O<|bi1 h fun _ en9 h=>?_)
 obtain⟨_,en9⟩:=qd en9
 refine vQ 2 [] hz8 O (a8 (q:=0) (row:=SR) (k:=1) wG xu O O (fun _=>O) (by rw[en9]))<|vR [3,4] O<|vE 5 O<|bi1 h fun _ en10 h=>?_
 obtain⟨_,en10⟩:=qd en10
 obtain⟨_,en11,h⟩:=qq h
 obtain⟨_,en11⟩:=qd en11
 refine aY (i:=0) (row:=SR) (k:=1) en10 en11 O (fun _=>O) (qi _) xu O O O<|ltV (tbm w b1 gl3) 5 sD sA<|vR [6] O<|vD<|ab<|bK<|bi1 h fun _ en13 h=>?_
 obtain⟨_,en13⟩:=qd en13
 cases h
 exact bT O (aL O) (aL O) (br (i:=0) (row:=SR) (k:=1) wG xu O O (fun _=>O) (by rw[en13])) (aL O)<|d0s []
theorem W7{a0 A51 A81 kT kF kI kC kE kP kM kW w r F}(h:M7 a0 A51 A81 kT=some r)(hc0:Cls w F [tF kF kP A51,taw kI kC kE kM A81,tB kF kC kW kT] w):qz Tryz.prog 7 [VP kF a0] F w fun u m=>∃G81 G122 Q51 Q81 Q122,Gr kI A81.length G81 r.2.1.length∧Gr kC kT.length G122 r.2.2.1.length∧u=.tuple #[VP G81 r.2.2.2.1,.int .i64 r.2.2.2.2]∧m=[yS kF Q51 r.1 [],jS G81 G122 kE Q81 r.2.1 [],xL kF G122 Q122 r.2.2.1 []]:=by
 rw[M7]at h
 obtain⟨g81,hg81⟩:∃g,g=kI:=⟨_,rfl⟩
 have hGr81:Gr g81 A81.length kI A81.length:=hg81▸Gr.refl _ _
 obtain⟨g122,hg122⟩:∃g,g=kC:=⟨_,rfl⟩
 have zB:Gr g122 kT.length kC kT.length:=hg122▸Gr.refl _ _
 refine body (n:=88) Tryz.func7 O O O hc0<|sr<|L.r 2 O<|nsr<|L.r 1 O<|bi1 h fun th1 kR h=>aj (D:=Cls w F [.obj (kF a0.toNat) [(tc kP a0),(td kP a0),(ts kP a0),(tz kP a0),.int .i64 th1.left_] 51,.sl (tc kP a0) 9 1 (th1.Seen.map SR),.sl (td kP a0) 9 1 (th1.Safe.map SR),.sl (ts kP a0) 3 1 (th1.late_.map I),.sl (tz kP a0) 9 1 (th1.texts_.map SR),yS kF kP A51 (tf a0),taw kI kC kE kM A81,tB kF kC kW kT]) (aoI 0 O kR)<|yNP O kR ji 0 wv O O<|yL (aF (g:=SR) (l:=th1.Seen) Tryz.underlying48 O<|aG 1 O)<|mI h (cu O O) fun x2 ex2 h=>(L.r 1 O<|nsr<|yL (bl (cells:=#[.pointer none,.pointer none,.int .i64 (-1),.int .i64 0,.bool false,.int .i64 0,st [],st [],st [],st [],st [],st [],st [],st [],st [],st [],st [],st [],st [],st [],st [],st [],st [],st [],st [],st [],tO]) O (by kernel_rfl))<|bV O O fun b3=>bM (S:=[(zr (tcg kC) (fun _=>[]) tbS).flatten,[.int .i64 (-1)],[.int .i64 0],[.bool false],[.int .i64 0],(zr (fzr SR) (fun _=>[]) tap).flatten,[tO]]) O<|bD (sds:=sd0) (vs:=(fun _=>[])) (xs:=tbS) (qV vj _)<|bD (sds:=sd0) (vs:=(fun _=>[])) (xs:=tap) (qV vj _)<|L.r 1 O<|ln<|ar (fun gs D=>∃gx1 gl2 gq3 kI gl5 gq6,∃gu7:Unit,∃kC gl9 oB,∃gu11:Unit,gs=[(5,VP kI gx1)]∧D=Cls w F [tF kF gq3 gl2,taw kI kC kE gq6 gl5,tB kF kC oB gl9]∧Gr g81 A81.length kI gl5.length∧Gr g122 kT.length kC gl9.length∧qmX gx1 gl2 gl5 gl9=some r) ?_ ?_)
 ·refine sr<|L.r 1 O<|cjp<|W.nilSl 143 1<|W.arNew (rowg:=fun g=>TStore81.rowA kC kE) (subg:=fun g=>TStore81.subA kC kE) (e:=81) (g:=kI) (gh:=kM) (l:=A81) (hs:=[]) (b:=b3) (u1:=(⟨tbS,(-1),0,false,0,tap,[]⟩:TStore81)) (vs':=[(tO)]) (m':=(tat kF a0 kP th1 A51 kC kW kT)) [3,0,2,1,10,4,5,6,7,8,9,11] h (by decide) O (fun _ h=>nomatch h) (fun _ _ _ _ _=>⟨O,O⟩) fun kI q7 x8 l9 h hg10 hv11 hi12=>?_
  rw[hv11]
  replace hGr81:=hGr81.trans hg10
  refine bC (D:=Cls w F (jS kI kC kE q7 l9 []::tat kF a0 kP th1 A51 kC kW kT)) hI<|bC (D:=Cls w F [tF kF kP A51,taw kI kC kE q7 l9,tB kF kC kW kT]) (asI [1,2,3,4,5,6,0,7] kR O)<|au (fun m gs D=>∃jK zD gq14 kX yE,∃gu17:Unit,∃kC jE gq20,∃gu21:Unit,gs=[(0,VP kF a0),(4,.int .i64 x2),(5,VP kI x8),(22,taB jK)]∧D=Cls w F [tF kF gq14 zD,taw kI kC kE yE kX,tB kF kC gq20 jE]∧Gr g81 A81.length kI kX.length∧Gr g122 kT.length kC jE.length∧qdx x2 a0 x8 m jK zD kX jE=some r) ⟨0,A51,kP,l9,q7,(),kC,kT,kW,(),O,O,hGr81,zB,h⟩ ⟨O,O,O,O,trivial⟩ hI ?_
  rintro m _ _ ⟨jK,zD,gq14,kX,yE,gu17,kC,jE,gq20,gu21,rfl,rfl,hGr81,zB,h⟩
  rcases m with _|m
  ·rw[qdx]at h;cases h
  rw[qdx]at h
  generalize hg1:qdx x2 a0 x8 m=go1 at h
  rw[qhJ]at h
  refine sr<|ltL h (fun c13 h=>?_) fun c13 h=>?_
  ·refine cje<|L.r 2 O<|cjm<|ah<|L.r 3 O<|mI h (df O O) fun x14 ex14 h=>(L.r 1 O<|bi1 h fun _ ck15 h=>have ck15:=qw ck15;aj (D:=Cls w F [tF kF gq14 zD,tB kF kC gq20 jE,taw kI kC kE yE kX]) (sI [0,2,1])<|bi5 h fun l16 l17 x18 l19 x21 e22 h=>dP [yS kF gq14 zD [],xL kF kC gq20 jE []] [jS kI kC kE yE kX []] O (fun w' hw=>W22 e22 hw.lend) ?_)
   rintro _ _ ⟨kC,q23,q24,v20,hg25,rfl,rfl⟩
   replace zB:=zB.trans hg25
   rw[qf1 hg25 ck15]
   refine aj (D:=Cls w F [tF kF q23 l16,tB kF kC q24 l17,tl v20 l19,taw kI kC kE yE kX]) hI<|L.r 7 O<|cjf<|L.r 1 O<|neL h (fun c26 h=>?_) fun c26 h=>?_
   ·cases h
    exact cjb<|L.r 3 O<|cjh<|cjk<|rT2 fun w1 hw=>⟨_,_,O,⟨_,_,_,_,_,(hg81▸hGr81),(hg122▸zB),O,O⟩,hw.s [0,3,1]⟩
   refine cja<|ab<|ar (fun gs D=>∃gx22 gb23 zW zE gb26,gs=[(0,VP kF a0),(4,.int .i64 x2),(5,VP kI x8),(6,taB jK),(7,VP kC x18),(10,taB gx22),(11,.bool gb23),(12,pt zW 0),(13,.bool gb26),(22,taB jK)]∧D=Cls w F [tF kF q23 l16,tB kF kC q24 l17,taw kI kC kE yE kX,tD zW zE]∧qdy kX x8 jK x18 go1 l16 l17 gx22 gb23 zE gb26=some r) ?_ ?_
   ·refine ah<|L.r 1 O<|bi4 h fun x58 b59 x60 b61 e62 h=>yL (ye O fun w' hw=>W23 e62 (As.at_ (hw.get (i:=2) O)))<|L.r 2 O<|ibL h (Y.extract O O) (fun c63 h=>?_) fun c63 h=>?_
    ·refine L.r 1 O<|ibL h (Y.extract O O) (fun c64 h=>?_) fun c64 h=>?_
     ·refine L.alloc O qis fun b65=>aj (D:=Cls w F [tK b65,tF kF q23 l16,tB kF kC q24 l17,tl v20 l19,taw kI kC kE yE kX]) (fun _ hw=>by first|exact hw|simpa [I,B,SR]using hw)<|L.r 2 O<|bi1 h fun _ en66 h=>?_
      obtain⟨_,en66⟩:=qd en66
      obtain⟨_,en67,h⟩:=qq h
      obtain⟨_,en67⟩:=qd en67
      exact aY (i:=0) (row:=SR) (k:=1) en66 en67 O (fun _=>O) (qi _) xu O O O<|L.r 1 O<|ae<|ay ⟨x58,true,b65,x60,true,O,O,h⟩<|sI [1,2,4,0]
     refine L.alloc O qis fun b68=>aj (D:=Cls w F [tK b68,tF kF q23 l16,tB kF kC q24 l17,tl v20 l19,taw kI kC kE yE kX]) (fun _ hw=>by first|exact hw|simpa [I,B,SR]using hw)<|L.r 2 O<|bi1 h fun _ en69 h=>?_
     obtain⟨_,en69⟩:=qd en69
     obtain⟨_,en70,h⟩:=qq h
     obtain⟨_,en70⟩:=qd en70
     exact aY (i:=0) (row:=SR) (k:=1) en69 en70 O (fun _=>O) (qi _) xu O O O<|L.r 1 O<|ae<|ay ⟨x58,true,b68,x60,false,O,O,h⟩<|sI [1,2,4,0]
    refine L.r 1 O<|ibL h (Y.extract O O) (fun c71 h=>?_) fun c71 h=>?_
    ·refine L.alloc O qis fun b72=>aj (D:=Cls w F [tK b72,tF kF q23 l16,tB kF kC q24 l17,tl v20 l19,taw kI kC kE yE kX]) (fun _ hw=>by first|exact hw|simpa [I,B,SR]using hw)<|L.r 2 O<|bi1 h fun _ en73 h=>?_
     obtain⟨_,en73⟩:=qd en73
     obtain⟨_,qgx,h⟩:=qq h
     obtain⟨_,qgx⟩:=qd qgx
     exact aY (i:=0) (row:=SR) (k:=1) en73 qgx O (fun _=>O) (qi _) xu O O O<|L.r 1 O<|ae<|ay ⟨x58,false,b72,x60,true,O,O,h⟩<|sI [1,2,4,0]
    refine L.alloc O qis fun b75=>aj (D:=Cls w F [tK b75,tF kF q23 l16,tB kF kC q24 l17,tl v20 l19,taw kI kC kE yE kX]) (fun _ hw=>by first|exact hw|simpa [I,B,SR]using hw)<|L.r 2 O<|bi1 h fun _ en76 h=>?_
    obtain⟨_,en76⟩:=qd en76
    obtain⟨_,en77,h⟩:=qq h
    obtain⟨_,en77⟩:=qd en77
    exact aY (i:=0) (row:=SR) (k:=1) en76 en77 O (fun _=>O) (qi _) xu O O O<|L.r 1 O<|ae<|ay ⟨x58,false,b75,x60,false,O,O,h⟩<|sI [1,2,4,0]
   rintro _ _ ⟨gx22,gb23,zW,zE,gb26,rfl,rfl,h⟩
   rw[qdy]at h
   refine aE<|sr<|ibL h (bv O) (fun c27 h=>?_) fun c27 h=>?_
   ·refine yL (bf O)<|cji<|L.r 3 O<|bi1 h fun jI eth28 h=>aj (D:=Cls w F [ta kI x8 kC jI yE,taI yE x8 jI kE,.ss (zs sd0 (fun _=>[]) jI.logs_),th jI,taK kI kC kE yE kX x8,tF kF q23 l16,tB kF kC q24 l17,tD zW zE]) (aoI 2 O eth28)<|yNF O eth28 qeC<|mL (fun _=>pt (kI x8.toNat) (0+jK.toNat*1)) h (aR (l:=jI.logs_) Tryz.underlying78 qlP O O) fun x29 ex29 h=>(bG (si:=0) (ps:=0) (row:=(tcg kC)) (sds:=sd0) (vs:=(fun _=>[])) (q:=0) (s:=2) (c:=0) (u1:=x18) (vals:=[VP kC x18]) (j:=0) h qlP O O O (by rw[qL]) O (qW (qcZ _ _) zg) O O sl0 O (fun _ _=>O) (qm ex29) O O (fun _ _=>O) O fun l30 el30 h=>ln<|ar (fun gs D=>∃gb27,gs=[(0,VP kF a0),(4,.int .i64 x2),(5,VP kI x8),(6,taB jK),(10,taB gx22),(12,pt zW 0),(22,taB jK),(68,.bool gb27)]∧D=Cls w F (taK kI kC kE yE kX x8::tF kF q23 l16::tB kF kC q24 l17::tbT kI x8 kC l30 jI yE zW zE kE)∧qgy zE l30 jI jK kX x8 gx22 go1 l16 l17 gb27=some r) ?_ ?_)
    ·refine ah<|ibL h (bv O) (fun c54 h=>?_) fun c54 h=>?_
     ·refine L.r 2 O<|tkL<|yN O eth28<|tkL<|yF wB O<|tkL<|bi1 h fun _ en55 h=>?_
      obtain⟨_,en55⟩:=qd en55
      refine yL (al (q:=0) (si:=1) (ps:=2) (j:=0) (X:=[.int .i64 jI.half_]) ag3 O O O O (by simp[zl,qc,en55]) O)<|tkL<|ltL h (fun c56 h=>?_) fun c56 h=>?_
      ·exact L.r 9 O<|ae<|ay ⟨true,O,O,h⟩<|sI [4,5,6,0,2,3,7,1]
      refine L.r 3 O<|tkL<|yN O eth28<|tkL<|yF qcK O<|tkL<|yL (al (q:=0) (si:=2) (ps:=3) (j:=0) (X:=[.int .i64 jI.gen_]) ag3 O O O O (by simp[zl,qc,en55]) O)<|tkL<|gtL h (fun c57 h=>?_) fun c57 h=>?_
      ·exact L.r 2 O<|ae<|ay ⟨true,O,O,h⟩<|sI [4,5,6,0,2,3,7,1]
      exact L.r 2 O<|ae<|ay ⟨false,O,O,h⟩<|sI [4,5,6,0,2,3,7,1]
     exact L.r 15 O<|ae<|ay ⟨false,O,O,h⟩<|sI [4,5,6,0,2,3,7,1]
    rintro _ _ ⟨gb27,rfl,rfl,h⟩
    rw[qgy]at h
    rcases gb27 with _|_
    ·replace h:=qU h
     exact a6 O<|aN<|cjj<|mA h fun x31 ex31 h=>(L.r 1 O<|ae<|bi1 h fun l33 el33 h=>bL (row:=TStore81.rowA kC kE) (sub:=TStore81.subA kC kE) (e:=81) (g:=kI) (gh:=yE) (vs':=[(tc yE x8)]) (m':=[tF kF q23 l16,tB kF kC q24 l17,tD zW zE]) [3,7,4,5,0,1,2,6] el33 O fun q32=>have hGr81:=hGr81.upd el33;az (D:=Cls w F [taw kI kC kE q32 l33,tF kF q23 l16,tB kF kC q24 l17,tD zW zE]) hI<|bi ⟨x31,l16,q23,l33,q32,(),kC,l17,q24,(),O,O,hGr81,zB,by rw[hg1];exact h⟩<|sI [1,0,2])
    replace h:=qT h
    refine aX O<|av (k:=15) (stC [[8,14],[14]] [Cls w F (taK kI kC kE yE kX x8::tF kF q23 l16::tB kF kC q24 l17::tbT kI x8 kC l30 jI yE zW zE kE),Cls w F [taK kI kC kE yE kX x8,tF kF q23 l16,tB kF kC q24 l17,.ss (tbj l30),th jI,tD zW zE,taI yE x8 jI kE]]<|Cls w F [taK kI kC kE yE kX x8,tF kF q23 l16,tB kF kC q24 l17,.ss (tbj l30),tD zW zE,taI yE x8 jI kE]) O mixed (fun _ hw=>hw.drew) sn<|aA [] (ax (ax zF<|sI [0,1,2,3,5,6])<|sI [0,1,2,4,6,7]) fun hz44=>(vR [0,1,2,3,4] O<|bi1 h fun _ en45 h=>?_)
    obtain⟨_,en45⟩:=qd en45
    refine vQ 5 [] hz44 O (a8 (q:=4) (row:=SR) (k:=1) wG xu O O (fun _=>O) (by rw[en45]))<|vN 6 [] O hz44 O eth28<|vQ 7 [] hz44 O (aa wB O)<|vE 8 O<|bi1 h fun _ en46 h=>?_
    obtain⟨_,en46⟩:=qd en46
    refine aW (q:=3) (si:=1) (ps:=2) (j:=0) (X:=[.int .i64 jI.half_]) (vals:=(tH jK)) sz3 O O O O O (by simp[Value.oneCell',Value.cells,st,pt,el]) O O (by simp[zl,qc,en46]) O<|ltV (stC [[14]] [Cls w F [taK kI kC kE yE kX x8,tF kF q23 l16,tB kF kC q24 l17,.ss (tbj l30),th jI,tD zW zE,taI yE x8 jI kE]]<|Cls w F [taK kI kC kE yE kX x8,tF kF q23 l16,tB kF kC q24 l17,.ss (tbj l30),tD zW zE,taI yE x8 jI kE]) 8 (aw O<|sT sD) (sN<|sI [0,1,2,4,5,6,7])<|aA [] (ax zF<|sI [0,1,2,3,5,6]) fun hz47=>(vN 9 [] O hz47 O eth28<|vQ 10 [] hz47 O (aa qcK O)<|vE 11 O<|aW (q:=3) (si:=2) (ps:=3) (j:=0) (X:=[.int .i64 jI.gen_]) (vals:=(tH gx22)) sz3 O O O O O (by simp[Value.oneCell',Value.cells,st,pt,el]) O O (by simp[zl,qc,en46]) O<|ltV (stC [[14]] [Cls w F [taK kI kC kE yE kX x8,tF kF q23 l16,tB kF kC q24 l17,.ss (tbj l30),th jI,tD zW zE,taI yE x8 jI kE]]<|Cls w F [taK kI kC kE yE kX x8,tF kF q23 l16,tB kF kC q24 l17,.ss (tbj l30),tD zW zE,taI yE x8 jI kE]) 11 (sT sD) (sN<|sI [0,1,2,4,5,6,7])<|aA [] (ax zF<|sI [0,1,2,3,5,6]) fun hz48=>(vN 12 [] O hz48 O eth28<|vQ 13 [] hz48 O (aa qjX O)<|vE 14 O<|bi1 h fun _ en49 h=>?_))
    obtain⟨_,en49⟩:=qd en49
    obtain⟨_,en50,h⟩:=qq h
    obtain⟨_,en50⟩:=qd en50
    exact dR (q:=3) (si:=5) (ps:=6) (rw':=SR) (vs:=(fun _=>[])) (lb:=jI.first_) (lb':=zE) xu O O (qi _) O O (by simp[zl,qc,en46]) (zrN (nn:=20) (k:=1) (fun _ _=>O) en49) (zrN (nn:=20) (k:=1) (fun _ _=>O) en50)<|aj (D:=Cls w F [jS kI kC kE yE kX (x8.toNat::[]),yS kF q23 l16 [],xL kF kC q24 l17 [],.obj (kI x8.toNat) (List.flatten [(zr (fzr (PR kC)) (fun _=>[]) l30).flatten,[.int .i64 jK],[.int .i64 gx22],[.bool jI.down_],[.int .i64 jI.now_],(zr (fzr SR) (fun _=>[]) zE).flatten,[(gv (yE x8.toNat) 0)]]) 81,.ss (zs sd0 (fun _=>[]) l30),.ss (zs sd0 (fun _=>[]) zE),.obj zW ((zE.map SR).flatten) 46,.sl (gv (yE x8.toNat) 0) 143 1 (jI.deals_.map (PR kE))]) (fun _ hw=>by simp only[qX,tG,tI,tP,tQ,tR,tS,tZ,taF,taH,taL,taM,taO,taP,taV,taX,tad,taf,tai,tas,tav,taz,tb,tbC,tbT,tbd,tbj,tbk,tbo,tbt,tbu,tbv,tbw,tby,tcB,tcJ,tca,tch,tcm,tcn,tcu,th,tv]at hw ⊢;exact hw)<|ltV (stC [] []<|Cls w F [taK kI kC kE yE kX x8,tF kF q23 l16,tB kF kC q24 l17,.ss (tbj l30),tD zW zE,taI yE x8 jI kE]) 14 (aw O sD) (aP<|sI [0,1,2,4,6,7])<|vD<|cjj<|mA h fun x51 ex51 h=>(L.r 1 O<|ae<|bi1 h fun l53 el53 h=>bL (row:=TStore81.rowA kC kE) (sub:=TStore81.subA kC kE) (e:=81) (g:=kI) (gh:=yE) (vs':=[(tc yE x8)]) (m':=[tF kF q23 l16,tB kF kC q24 l17,tD zW zE]) [3,7,4,5,0,1,2,6] el53 O fun q52=>have hGr81:=hGr81.upd el53;az (D:=Cls w F [taw kI kC kE q52 l53,tF kF q23 l16,tB kF kC q24 l17,tD zW zE]) hI<|bi ⟨x51,l16,q23,l53,q52,(),kC,l17,q24,(),O,O,hGr81,zB,by rw[hg1];exact h⟩<|sI [1,0,2])
   cases h
   exact yL (bf O)<|cjb<|L.r 2 O<|cjh<|cjk<|rT2 fun w1 hw=>⟨_,_,O,⟨_,_,_,_,_,(hg81▸hGr81),(hg122▸zB),O,O⟩,hw.s [0,2,1]⟩
  exact cjm<|cjd<|ay ⟨x8,zD,gq14,kI,kX,yE,(),kC,jE,gq20,(),O,O,hGr81,zB,h⟩ hI
 rintro _ _ ⟨gx1,gl2,gq3,kI,gl5,gq6,gu7,kC,gl9,oB,gu11,rfl,rfl,hGr81,zB,h⟩
 rw[qmX]at h
 refine aE<|sr<|L.r 1 O<|bi1 h fun th4 xN h=>aj (D:=Cls w F<|tav kI gx1 kC th4 gq6 kE gl5 kF gq3 gl2 oB gl9) (aoI 1 O xN)<|yNF O xN wB<|bi1 h fun _ en5 h=>?_
 obtain⟨_,en5⟩:=qd en5
 refine yL (al (q:=0) (si:=1) (ps:=2) (j:=0) (X:=[.int .i64 th4.half_]) ag3 O O O O (by simp[zl,qc,en5]) O)<|ltL h (fun c6 h=>?_) fun c6 h=>?_
 ·cases h
  exact cjb<|L.r 2 O<|cjh<|az (D:=Cls w F (taw kI kC kE gq6 gl5::tbi kF gq3 gl2 kC oB gl9)) (asI [0,1,2,3,4,5,6] xN O)<|rT2 fun w1 hw=>⟨_,_,O,⟨_,_,_,_,_,(hg81▸hGr81),(hg122▸zB),O,O⟩,hw.s [1,0,2]⟩
 cases h
 exact cji<|L.r 3 O<|cjc<|az (D:=Cls w F (taw kI kC kE gq6 gl5::tbi kF gq3 gl2 kC oB gl9)) (asI [0,1,2,3,4,5,6] xN O)<|rT2 fun w1 hw=>⟨_,_,O,⟨_,_,_,_,_,(hg81▸hGr81),(hg122▸zB),O,O⟩,hw.s [1,0,2]⟩
theorem W55{a0 a1 A67 kK kG kB kA kH kN w r F}(h:M55 a0 a1 A67 kK=some r)(hc0:Cls w F (tbg kG kB kA kH A67 kN kK) w):qz Tryz.prog 55 [VP kG a0,.int .i64 a1] F w fun u m=>u=VP kA r∧m=(tbg kG kB kA kH A67 kN kK):=by
 rw[M55]at h
 refine body (n:=21) Tryz.func55 O O O hc0<|bi1 h fun th1 kR h=>bC (D:=tS w F kG a0 kB th1 kH kA A67 kN kK) (aoI 0 O kR)<|sr<|bV O O fun b2=>L.r 1 O<|nsr<|L.r 1 O<|yNF O kR yv<|bi1 h fun _ en3 h=>?_
 obtain⟨_,en3⟩:=qd en3
 obtain⟨_,en4,h⟩:=qq h
 obtain⟨_,en4⟩:=qd en4
 refine yL (al (q:=1) (si:=6) (ps:=26) (j:=0) (X:=[(tc kH a0)]) qj6 O O O O (by simp[zl,qc,en3,en4]) O)<|yL (cL O)<|bQ (fun v D=>∃gx1,v=.int .i64 gx1∧D=Cls w F (kZ kG kB kA kH A67 (tf a0)::tC kA kN kK::tP kG a0 kB th1 kH kA)∧qgi th1 gx1=some r) O (by kernel_rfl) O Tryz.func97 O O O ?_ ?_
 ·refine sr<|L.r 1 O<|ln<|ar (fun gs D=>gs=[]∧D=Cls w F (kZ kG kB kA kH A67 (tf a0)::tC kA kN kK::tP kG a0 kB th1 kH kA)∧qjt th1=some r) ?_ ?_
  ·refine sr<|L.r 1 O<|yL (aF (g:=(PR kA)) (l:=th1.active_) Tryz.underlying65 O<|aG 2 O)<|L.r 1 O<|cjp<|au (fun m gs D=>∃gx2,gs=[(0,(tc kH a0)),(1,.func (.func 98) #[] #[pt b2 0]),(7,.int .i64 (th1.active_.length:Int)),(8,.int .i64 gx2)]∧D=Cls w F (kZ kG kB kA kH A67 (tf a0)::tC kA kN kK::.obj b2 (tH a1) 3::tP kG a0 kB th1 kH kA)∧qbM th1 kK a1 m gx2=some r) ⟨0,O,O,h⟩ ⟨O,O,O,O,trivial⟩ (sI [6,7,0,1,4,5,2,3]) ?_
   rintro m _ _ ⟨gx2,rfl,rfl,h⟩
   rcases m with _|m
   ·rw[qbM]at h;cases h
   rw[qbM]at h
   generalize hg1:qbM th1 kK a1 m=go1 at h
   rw[qfi]at h
   refine sr<|ltL h (fun c7 h=>?_) fun c7 h=>?_
   ·refine cje<|L.r 2 O<|cjm<|ah<|L.r 3 O<|mL (fun _=>el (tc kH a0)<|tbG gx2) h (ap (g:=(PR kA)) (l:=th1.active_) Tryz.underlying65 jl O O<|aG 6 O) fun x8 ex8 h=>(yL (aB (u:=VP kA x8) wQ O (aG 6 O)<|ql ex8)<|bu (fun v D=>∃gb3,v=.bool gb3∧D=Cls w F (kZ kG kB kA kH A67 (tf a0)::tC kA kN kK::.obj b2 (tH a1) 3::tP kG a0 kB th1 kH kA)∧qjs th1 gx2 go1 gb3=some r) O (by kernel_rfl) O O Tryz.func98 O O O ?_ ?_)
    ·exact sr<|L.r 1 O<|cjm<|bi1 h fun zS eth10 h=>bC (D:=Cls w F (.obj (kA x8.toNat) (taR zS kN x8) 130::.sl (tc kN x8) 3 1 (zS.reads_.map I)::.sl (td kN x8) 3 1 (zS.writes_.map I)::tI zS::tcj kA kN kK x8::kZ kG kB kA kH A67 (tf a0)::.obj b2 (tH a1) 3::tP kG a0 kB th1 kH kA)) (aoI 1 O eth10)<|aZ mixed (by kernel_rfl) (fun _ hw=>hw.drew) fun hC=>(U.r 1 O<|fQ O (aQ O eth10)<|fQ O (aa qk3 O)<|fQ O (al (q:=0) (si:=0) (ps:=0) (j:=0) (X:=[.int .i64 zS.id_]) ag3 O O O O sl0 O)<|fQ O (am (i:=6) ag3 O O O)<|fQ O (dy O O)<|U.r 1 O<|bo<|ab<|bK<|az (D:=Cls w F (tC kA kN kK::kZ kG kB kA kH A67 (tf a0)::.obj b2 (tH a1) 3::tP kG a0 kB th1 kH kA)) (asI [0,1,2,3,4,5,6,7,8,9,10,11] eth10 O)<|rT fun w1 hw=>⟨_,_,O,⟨decide (zS.id_=a1),O,O,h⟩,hw.s [1,0,2,3,4,5,6,7]⟩)
    rintro _ _ ⟨gb3,rfl,rfl,h⟩
    rw[qjs]at h
    rcases gb3 with _|_
    ·replace h:=qU h
     exact cja<|cjj<|mA h fun x9 ex9 h=>(L.r 1 O<|ae<|bi ⟨x9,O,O,by rw[hg1];exact h⟩ hI)
    replace h:=qT h
    exact cjb<|L.r 2 O<|cjc<|cjk<|bb O O fun w1 hw=>⟨_,_,O,⟨gx2,O,O,h⟩,hw.s [0,1,3,4,5,6,7]⟩
   exact cjm<|cjd<|bB ⟨O,O,h⟩ trivial<|sI [0,1,3,4,5,6,7]
  rintro _ _ ⟨rfl,rfl,h⟩
  rw[qjt]at h
  exact sr<|L.r 1 O<|cjc<|bb O O fun w1 hw=>⟨_,_,O,⟨(-1),O,O,h⟩,hw⟩
 rintro _ _ ⟨gx1,rfl,rfl,h⟩
 rw[qgi]at h
 refine L.r 1 O<|cjf<|L.r 1 O<|ltL h (fun c5 h=>?_) fun c5 h=>?_
 ·cases h
  exact cjb<|L.r 1 O<|cjh<|az (D:=Cls w F<|tbg kG kB kA kH A67 kN kK) (asI [2,5,6,3,4,0,1] kR O)<|rT d0
 refine cji<|L.r 1 O<|yNF O kR yv<|yL (al (q:=2) (si:=6) (ps:=26) (j:=0) (X:=[(tc kH a0)]) qj6 O O O O (by simp[zl,qc,en3,en4]) O)<|L.r 1 O<|mL (fun _=>el (tc kH a0)<|tbG gx1) h (ap (g:=(PR kA)) (l:=th1.active_) Tryz.underlying65 jl O O<|aG 5 O) fun x6 ex6 h=>(yL (aB (u:=VP kA x6) wQ O (aG 5 O)<|ql ex6)<|L.r 1 O<|cjc<|az (D:=Cls w F<|tbg kG kB kA kH A67 kN kK) (asI [2,5,6,3,4,0,1] kR O)<|rT fun w1 hw=>?_)
 cases h
 exact⟨_,_,O,⟨O,O⟩,hw⟩
theorem W24{a0 a1 A67 kK kG kB kA kH kN w r F}(h:M24 a0 a1 A67 kK=some r)(hc0:Cls w F [kZ kG kB kA kH A67 [],yV kA kN kK []] w):qz Tryz.prog 24 [VP kG a0,.int .i64 a1] F w fun u m=>∃G130 Q67 Q130,Gr kA kK.length G130 r.2.1.length∧u=.int .i64 r.2.2∧m=[kZ kG kB G130 Q67 r.1 [],yV G130 Q130 r.2.1 []]:=by
 rw[M24]at h
 obtain⟨g130,hg130⟩:∃g,g=kA:=⟨_,rfl⟩
 have xO:Gr g130 kK.length kA kK.length:=hg130▸Gr.refl _ _
 refine body (n:=38) Tryz.func24 O O O hc0<|bi1 h fun th1 kR h=>bC (D:=Cls w F [.obj (kG a0.toNat) (List.flatten [(zr (fzr (PR kB)) (fun _=>[]) th1.logs_).flatten,[.int .i64 th1.half_],[.int .i64 th1.gen_],[.bool th1.down_],[.int .i64 th1.now_],(zr qn (qN (kH a0.toNat) 2) th1.items_).flatten,[(gv (kH a0.toNat) 0)],[(gv (kH a0.toNat) 1)]]) 67,.sl (gv (kH a0.toNat) 0) 127 1 (th1.active_.map (PR kA)),.sl (gv (kH a0.toNat) 1) 127 1 (th1.over_.map (PR kA)),.ss (zs sd0 (fun _=>[]) th1.logs_),.ss (zs (zv 76 2 TVersion.row) (qN (kH a0.toNat) 2) th1.items_),kZ kG kB kA kH A67 (a0.toNat::[]),yV kA kN kK []]) (aoI 0 O kR)<|sr<|L.r 1 O<|cjm<|W.block<|sr<|L.r 1 O<|yNF O kR qaI<|bi1 h fun _ en2 h=>?_
 obtain⟨_,en2⟩:=qd en2
 refine ibL h (al (q:=0) (si:=3) (ps:=4) (j:=0) (X:=[.bool th1.down_]) ag4 O O O O (by simp[zl,qc,en2]) O) (fun c3 h=>?_) fun c3 h=>?_
 ·cases h
  exact L.r 1 O<|cjb<|L.r 1 O<|cjc<|ak<|aM<|az (D:=Cls w F [kZ kG kB kA kH A67 [],yV kA kN kK []]) (asI [0,1,2,3,4,5,6] kR O)<|rT fun w1 hw=>⟨_,_,O,⟨_,_,_,(hg130▸xO),O,O⟩,hw⟩
 refine L.r 1 O<|cjn<|bd 6 (fun gs D=>∃gb1,gs=[(0,VP kG a0),(1,.int .i64 a1),(16,.bool gb1)]∧D=Cls w F [kZ kG kB kA kH A67 (a0.toNat::[]),yV kA kN kK [],.obj (kG a0.toNat) (List.flatten [(zr (fzr (PR kB)) (fun _=>[]) th1.logs_).flatten,[.int .i64 th1.half_],[.int .i64 th1.gen_],[.bool th1.down_],[.int .i64 th1.now_],(zr qn (qN (kH a0.toNat) 2) th1.items_).flatten,[(gv (kH a0.toNat) 0)],[(gv (kH a0.toNat) 1)]]) 67,.ss (zs sd0 (fun _=>[]) th1.logs_),.ss (zs (zv 76 2 TVersion.row) (qN (kH a0.toNat) 2) th1.items_),.sl (gv (kH a0.toNat) 0) 127 1 (th1.active_.map (PR kA)),.sl (gv (kH a0.toNat) 1) 127 1 (th1.over_.map (PR kA))]∧qbS A67 kK a0 a1 gb1=some r) ?_ ?_
 ·refine L.r 1 O<|ltL h (fun c79 h=>?_) fun c79 h=>?_
  ·exact L.r 4 O<|ae<|ay ⟨true,O,O,h⟩<|sI [5,6,0,3,4,1,2]
  refine L.r 2 O<|tkL<|iL h (bU O O) (fun c80 h=>?_) fun c80 h=>?_
  ·exact L.r 1 O<|ae<|ay ⟨true,O,O,h⟩<|sI [5,6,0,3,4,1,2]
  exact L.r 1 O<|ae<|ay ⟨false,O,O,h⟩<|sI [5,6,0,3,4,1,2]
 rintro _ _ ⟨gb1,rfl,rfl,h⟩
 rw[qbS]at h
 rcases gb1 with _|_
 ·replace h:=qU h
  refine L.r 1 O<|cjn<|L.r 2 O<|aj (D:=Cls w F [kZ kG kB kA kH A67 [],yV kA kN kK []]) (asI [2,5,6,3,4,0,1] kR O)<|bi1 h fun x4 e5 h=>dP [kZ kG kB kA kH A67 [],yV kA kN kK []] [] O (fun w' hw=>W55 e5 hw.lend) ?_
  rintro _ _ ⟨rfl,rfl⟩
  refine aj (D:=Cls w F [kZ kG kB kA kH A67 [],yV kA kN kK []]) hI<|bi1 h fun th6 xT h=>aj (D:=Cls w F [.obj (kG a0.toNat) (List.flatten [(zr (fzr (PR kB)) (fun _=>[]) th6.logs_).flatten,[.int .i64 th6.half_],[.int .i64 th6.gen_],[.bool th6.down_],[.int .i64 th6.now_],(zr qn (qN (kH a0.toNat) 2) th6.items_).flatten,[(gv (kH a0.toNat) 0)],[(gv (kH a0.toNat) 1)]]) 67,.sl (gv (kH a0.toNat) 0) 127 1 (th6.active_.map (PR kA)),.sl (gv (kH a0.toNat) 1) 127 1 (th6.over_.map (PR kA)),.ss (zs sd0 (fun _=>[]) th6.logs_),.ss (zs (zv 76 2 TVersion.row) (qN (kH a0.toNat) 2) th6.items_),kZ kG kB kA kH A67 (a0.toNat::[]),yV kA kN kK []]) (aoI 0 O xT)<|iL h (cW Tryz.underlying127 O O) (fun c7 h=>?_) fun c7 h=>?_
  ·cases h
   exact L.r 1 O<|cjb<|L.r 1 O<|cjc<|ak<|aM<|az (D:=Cls w F [kZ kG kB kA kH A67 [],yV kA kN kK []]) (asI [0,1,2,3,4,5,6] xT O)<|rT fun w1 hw=>⟨_,_,O,⟨_,_,_,(hg130▸xO),O,O⟩,hw⟩
  refine L.r 1 O<|cja<|aq<|ab<|aE<|av (k:=17) (stC [[12,13,16],[13,16],[16]] [Cls w F [.obj (kG a0.toNat) (List.flatten [(zr (fzr (PR kB)) (fun _=>[]) th6.logs_).flatten,[.int .i64 th6.half_],[.int .i64 th6.gen_],[.bool th6.down_],[.int .i64 th6.now_],(zr qn (qN (kH a0.toNat) 2) th6.items_).flatten,[(gv (kH a0.toNat) 0)],[(gv (kH a0.toNat) 1)]]) 67,.sl (gv (kH a0.toNat) 0) 127 1 (th6.active_.map (PR kA)),.sl (gv (kH a0.toNat) 1) 127 1 (th6.over_.map (PR kA)),.ss (zs sd0 (fun _=>[]) th6.logs_),.ss (zs (zv 76 2 TVersion.row) (qN (kH a0.toNat) 2) th6.items_),kZ kG kB kA kH A67 (a0.toNat::[]),yV kA kN kK []],Cls w F [.obj (kG a0.toNat) (List.flatten [(zr (fzr (PR kB)) (fun _=>[]) th6.logs_).flatten,[.int .i64 th6.half_],[.int .i64 th6.gen_],[.bool th6.down_],[.int .i64 th6.now_],(zr qn (qN (kH a0.toNat) 2) th6.items_).flatten,[(gv (kH a0.toNat) 0)],[(gv (kH a0.toNat) 1)]]) 67,.sl (gv (kH a0.toNat) 0) 127 1 (th6.active_.map (PR kA)),.sl (gv (kH a0.toNat) 1) 127 1 (th6.over_.map (PR kA)),.ss (zs sd0 (fun _=>[]) th6.logs_),.ss (zs (zv 76 2 TVersion.row) (qN (kH a0.toNat) 2) th6.items_),kZ kG kB kA kH A67 (a0.toNat::[])],Cls w F [.obj (kG a0.toNat) (List.flatten [(zr (fzr (PR kB)) (fun _=>[]) th6.logs_).flatten,[.int .i64 th6.half_],[.int .i64 th6.gen_],[.bool th6.down_],[.int .i64 th6.now_],(zr qn (qN (kH a0.toNat) 2) th6.items_).flatten,[(gv (kH a0.toNat) 0)],[(gv (kH a0.toNat) 1)]]) 67,.sl (gv (kH a0.toNat) 1) 127 1 (th6.over_.map (PR kA)),.ss (zs sd0 (fun _=>[]) th6.logs_),.ss (zs (zv 76 2 TVersion.row) (qN (kH a0.toNat) 2) th6.items_),kZ kG kB kA kH A67 (a0.toNat::[])]]<|Cls w F [.sl (gv (kH a0.toNat) 1) 127 1 (th6.over_.map (PR kA)),.ss (zs sd0 (fun _=>[]) th6.logs_),.ss (zs (zv 76 2 TVersion.row) (qN (kH a0.toNat) 2) th6.items_),kZ kG kB kA kH A67 (a0.toNat::[])]) O mixed (fun _ hw=>hw.drew) sn<|aA [] (ax (ax (ax zF<|sI [1,2,3,4])<|sI [2,3,4,5])<|sI [2,3,4,5]) fun hz61=>(vR [0,1] O<|vN 2 [] O hz61 O xT<|vQ 3 [] hz61 O (aa yv O)<|aA [16] (ax (ax (be hI)<|sI [0,2,3,4,5])<|sI [0,2,3,4,5]) fun hz62=>bi1 h fun _ qhv h=>?_)
  obtain⟨_,qhv⟩:=qd qhv
  obtain⟨_,qio,h⟩:=qq h
  obtain⟨_,qio⟩:=qd qio
  refine vQ 4 [16] hz62 O (al (q:=0) (si:=6) (ps:=26) (j:=0) (X:=[(gv (kH a0.toNat) 0)]) qj6 O O O O (by simp[zl,qc,qhv,qio]) O)<|vR [5,6] O<|vN 7 [] O hz61 O xT<|vQ 8 [] hz61 O (aa yw O)<|vQ 9 [16] hz62 O (al (q:=0) (si:=4) (ps:=5) (j:=0) (X:=[.int .i64 th6.now_]) ag3 O O O O (by simp[zl,qc,qhv]) O)<|vQ 10 [] hz61 O (bl (cells:=#[.int .i64 a1,.int .i64 th6.now_,.int .i64 0,.slice none 0 0,.slice none 0 0,st [],st [],st [],st [],st [],st [],st [],st [],st [],st [],st [],st [],st [],st [],st [],st [],st [],st [],st [],st [],.bool false,.bool false]) O (by kernel_rfl))<|vE 11 O<|bV O O fun b65=>bM (S:=[[.int .i64 a1],[.int .i64 th6.now_],[.int .i64 0],[.slice none 0 0],[.slice none 0 0],(zr (fzr SR) (fun _=>[]) (List.replicate 20 ([]:(List UInt8)))).flatten,[.bool false],[.bool false]]) O<|bD (sds:=sd0) (vs:=(fun _=>[])) (xs:=(List.replicate 20 ([]:(List UInt8)))) (qV vj _)<|ltV (stC [[12,13,16],[13,16],[16]] [Cls w F [.ss (zs sd0 (fun _=>[]) (List.replicate 20 ([]:(List UInt8)))),.obj b65 (List.flatten [[.int .i64 a1],[.int .i64 th6.now_],[.int .i64 0],[.slice none 0 0],[.slice none 0 0],(zr (fzr SR) (fun _=>[]) (List.replicate 20 ([]:(List UInt8)))).flatten,[.bool false],[.bool false]]) 130,.obj (kG a0.toNat) (List.flatten [(zr (fzr (PR kB)) (fun _=>[]) th6.logs_).flatten,[.int .i64 th6.half_],[.int .i64 th6.gen_],[.bool th6.down_],[.int .i64 th6.now_],(zr qn (qN (kH a0.toNat) 2) th6.items_).flatten,[(gv (kH a0.toNat) 0)],[(gv (kH a0.toNat) 1)]]) 67,.sl (gv (kH a0.toNat) 0) 127 1 (th6.active_.map (PR kA)),.sl (gv (kH a0.toNat) 1) 127 1 (th6.over_.map (PR kA)),.ss (zs sd0 (fun _=>[]) th6.logs_),.ss (zs (zv 76 2 TVersion.row) (qN (kH a0.toNat) 2) th6.items_),kZ kG kB kA kH A67 (a0.toNat::[]),yV kA kN kK []],Cls w F [.obj (kG a0.toNat) (List.flatten [(zr (fzr (PR kB)) (fun _=>[]) th6.logs_).flatten,[.int .i64 th6.half_],[.int .i64 th6.gen_],[.bool th6.down_],[.int .i64 th6.now_],(zr qn (qN (kH a0.toNat) 2) th6.items_).flatten,[(gv (kH a0.toNat) 0)],[(gv (kH a0.toNat) 1)]]) 67,.sl (gv (kH a0.toNat) 0) 127 1 (th6.active_.map (PR kA)),.sl (gv (kH a0.toNat) 1) 127 1 (th6.over_.map (PR kA)),.ss (zs sd0 (fun _=>[]) th6.logs_),.ss (zs (zv 76 2 TVersion.row) (qN (kH a0.toNat) 2) th6.items_),kZ kG kB kA kH A67 (a0.toNat::[])],Cls w F [.obj (kG a0.toNat) (List.flatten [(zr (fzr (PR kB)) (fun _=>[]) th6.logs_).flatten,[.int .i64 th6.half_],[.int .i64 th6.gen_],[.bool th6.down_],[.int .i64 th6.now_],(zr qn (qN (kH a0.toNat) 2) th6.items_).flatten,[(gv (kH a0.toNat) 0)],[(gv (kH a0.toNat) 1)]]) 67,.sl (gv (kH a0.toNat) 1) 127 1 (th6.over_.map (PR kA)),.ss (zs sd0 (fun _=>[]) th6.logs_),.ss (zs (zv 76 2 TVersion.row) (qN (kH a0.toNat) 2) th6.items_),kZ kG kB kA kH A67 (a0.toNat::[])]]<|Cls w F [.sl (gv (kH a0.toNat) 1) 127 1 (th6.over_.map (PR kA)),.ss (zs sd0 (fun _=>[]) th6.logs_),.ss (zs (zv 76 2 TVersion.row) (qN (kH a0.toNat) 2) th6.items_),kZ kG kB kA kH A67 (a0.toNat::[])]) 11 (Sc.stay (sI [2,3,4,5,6,7,8])<|sT<|sT sD) sn<|vE 12 O<|L.nilSl 3 1<|L.nilSl 3 1<|bi1 h fun _ ck66 h=>have ck66:=qw ck66;?_
  obtain⟨ck66_0,ck66_1,ck66_2⟩:=ck66
  refine L.arNew (rowg:=fun g=>Ttx.rowA) (subg:=fun g=>Ttx.subA) (e:=130) (g:=kA) (gh:=kN) (l:=kK) (hs:=[]) (b:=b65) (u1:=(⟨a1,th6.now_,0,[],[],(List.replicate 20 ([]:(List UInt8))),false,false⟩:Ttx)) (vs':=[(.slice none 0 0),(.slice none 0 0)]) (m':=[.obj (kG a0.toNat) (List.flatten [(zr (fzr (PR kB)) (fun _=>[]) th6.logs_).flatten,[.int .i64 th6.half_],[.int .i64 th6.gen_],[.bool th6.down_],[.int .i64 th6.now_],(zr qn (qN (kH a0.toNat) 2) th6.items_).flatten,[(gv (kH a0.toNat) 0)],[(gv (kH a0.toNat) 1)]]) 67,.sl (gv (kH a0.toNat) 0) 127 1 (th6.active_.map (PR kA)),.sl (gv (kH a0.toNat) 1) 127 1 (th6.over_.map (PR kA)),.ss (zs sd0 (fun _=>[]) th6.logs_),.ss (zs (zv 76 2 TVersion.row) (qN (kH a0.toNat) 2) th6.items_),kZ kG kB kA kH A67 (a0.toNat::[])]) [3,1,0,2,10,4,5,6,7,8,9] h (by decide) O (fun _ h=>nomatch h) (fun _ _ _ _ _=>⟨O,O⟩) fun kA q67 x68 l69 h hg70 hv71 hi72=>?_
  rw[hv71]
  replace xO:=xO.trans hg70
  rw[qf2 hg70 ck66_0]
  rw[qf5 hg70 ck66_1]
  rw[qf5 hg70 ck66_2]
  refine aj (D:=Cls w F [yV kA q67 l69 [],.obj (kG a0.toNat) (List.flatten [(zr (fzr (PR kB)) (fun _=>[]) th6.logs_).flatten,[.int .i64 th6.half_],[.int .i64 th6.gen_],[.bool th6.down_],[.int .i64 th6.now_],(zr qn (qN (kH a0.toNat) 2) th6.items_).flatten,[(gv (kH a0.toNat) 0)],[(gv (kH a0.toNat) 1)]]) 67,.sl (gv (kH a0.toNat) 0) 127 1 (th6.active_.map (PR kA)),.sl (gv (kH a0.toNat) 1) 127 1 (th6.over_.map (PR kA)),.ss (zs sd0 (fun _=>[]) th6.logs_),.ss (zs (zv 76 2 TVersion.row) (qN (kH a0.toNat) 2) th6.items_),kZ kG kB kA kH A67 (a0.toNat::[])]) hI<|aI O Tryz.underlying65 qan O (qL _ _) fun b73=>ltV (stC [[13,16],[16]] [Cls w F [.sl (sv b73 1) 127 1 (([x68]).map (PR kA)),.obj (kG a0.toNat) (List.flatten [(zr (fzr (PR kB)) (fun _=>[]) th6.logs_).flatten,[.int .i64 th6.half_],[.int .i64 th6.gen_],[.bool th6.down_],[.int .i64 th6.now_],(zr qn (qN (kH a0.toNat) 2) th6.items_).flatten,[(gv (kH a0.toNat) 0)],[(gv (kH a0.toNat) 1)]]) 67,.sl (gv (kH a0.toNat) 0) 127 1 (th6.active_.map (PR kA)),.sl (gv (kH a0.toNat) 1) 127 1 (th6.over_.map (PR kA)),.ss (zs sd0 (fun _=>[]) th6.logs_),.ss (zs (zv 76 2 TVersion.row) (qN (kH a0.toNat) 2) th6.items_),kZ kG kB kA kH A67 (a0.toNat::[])],Cls w F [.sl (sv b73 1) 127 1 (([x68]).map (PR kA)),.obj (kG a0.toNat) (List.flatten [(zr (fzr (PR kB)) (fun _=>[]) th6.logs_).flatten,[.int .i64 th6.half_],[.int .i64 th6.gen_],[.bool th6.down_],[.int .i64 th6.now_],(zr qn (qN (kH a0.toNat) 2) th6.items_).flatten,[(gv (kH a0.toNat) 0)],[(gv (kH a0.toNat) 1)]]) 67,.sl (gv (kH a0.toNat) 1) 127 1 (th6.over_.map (PR kA)),.ss (zs sd0 (fun _=>[]) th6.logs_),.ss (zs (zv 76 2 TVersion.row) (qN (kH a0.toNat) 2) th6.items_),kZ kG kB kA kH A67 (a0.toNat::[])]]<|Cls w F [.sl (sv b73 1) 127 1 (([x68]).map (PR kA)),.sl (gv (kH a0.toNat) 1) 127 1 (th6.over_.map (PR kA)),.ss (zs sd0 (fun _=>[]) th6.logs_),.ss (zs (zv 76 2 TVersion.row) (qN (kH a0.toNat) 2) th6.items_),kZ kG kB kA kH A67 (a0.toNat::[])]) 12 (aw O<|Sc.stay (sI [1,2,3,4,5,6])<|Sc.stay (sI [1,2,3,4,5])<|aD<|sI [1,2,3,4]) (sN<|sI [0,2,3,4,5,6,7])<|vE 13 O<|bc (i:=3) (g:=(PR kA)) (l:=th6.active_) (more:=[x68]) h O Tryz.underlying65 qan O O O (aG 0 O) (jt _) O fun v74 l75 el75 h=>ltV (stC [[16]] [Cls w F [.sl v74 127 1 (l75.map (PR kA)),.sl (sv b73 1) 127 1 (([x68]).map (PR kA)),.obj (kG a0.toNat) (List.flatten [(zr (fzr (PR kB)) (fun _=>[]) th6.logs_).flatten,[.int .i64 th6.half_],[.int .i64 th6.gen_],[.bool th6.down_],[.int .i64 th6.now_],(zr qn (qN (kH a0.toNat) 2) th6.items_).flatten,[(gv (kH a0.toNat) 0)],[(gv (kH a0.toNat) 1)]]) 67,.sl (gv (kH a0.toNat) 1) 127 1 (th6.over_.map (PR kA)),.ss (zs sd0 (fun _=>[]) th6.logs_),.ss (zs (zv 76 2 TVersion.row) (qN (kH a0.toNat) 2) th6.items_),kZ kG kB kA kH A67 (a0.toNat::[])]]<|Cls w F [.sl v74 127 1 (l75.map (PR kA)),.sl (sv b73 1) 127 1 (([x68]).map (PR kA)),.sl (gv (kH a0.toNat) 1) 127 1 (th6.over_.map (PR kA)),.ss (zs sd0 (fun _=>[]) th6.logs_),.ss (zs (zv 76 2 TVersion.row) (qN (kH a0.toNat) 2) th6.items_),kZ kG kB kA kH A67 (a0.toNat::[])]) 13 (aw O<|Sc.stay (sI [1,2,3,4,5,6])<|aD<|sI [1,2,3,4,5]) (sN<|sI [0,1,3,4,5,6,7])<|aA [] (ax zF<|sI [0,1,3,4,5,6]) fun hz76=>(vN 14 [] O hz76 O xT<|vQ 15 [] hz76 O (aa yv O)<|vE 16 O<|bP (q:=3) (si:=6) (ps:=26) (j:=0) (X:=[(gv (kH a0.toNat) 0)]) qmL O O O (fun _ hw=>(As.at_ (hw.get (i:=0) O)).one) O O (by simp[zl,qc,qhv,qio]) O<|ltV (stC [] []<|Cls w F [.sl v74 127 1 (l75.map (PR kA)),.sl (sv b73 1) 127 1 (([x68]).map (PR kA)),.sl (gv (kH a0.toNat) 1) 127 1 (th6.over_.map (PR kA)),.ss (zs sd0 (fun _=>[]) th6.logs_),.ss (zs (zv 76 2 TVersion.row) (qN (kH a0.toNat) 2) th6.items_),kZ kG kB kA kH A67 (a0.toNat::[])]) 16 (aw O sD) (aP<|sI [0,1,4,5,6,7])<|vD<|ab<|sr<|L.r 1 O<|cjc<|az (D:=Cls w F [.sl v74 127 1 (l75.map (PR kA)),.sl (sv b73 1) 127 1 (([x68]).map (PR kA)),yV kA q67 l69 [],.obj (kG a0.toNat) (List.flatten [(zr (fzr (PR kB)) (fun _=>[]) th6.logs_).flatten,[.int .i64 th6.half_],[.int .i64 th6.gen_],[.bool th6.down_],[.int .i64 th6.now_],(zr qn (qN ([v74,(gv (kH a0.toNat) 1)]++ghl (qN (kH a0.toNat) 2) th6.items_.length) 2) th6.items_).flatten,[v74],[(gv (kH a0.toNat) 1)]]) 67,.sl (gv (kH a0.toNat) 1) 127 1 (th6.over_.map (PR kA)),.ss (zs sd0 (fun _=>[]) th6.logs_),.ss (zs (zv 76 2 TVersion.row) (qN ([v74,(gv (kH a0.toNat) 1)]++ghl (qN (kH a0.toNat) 2) th6.items_.length) 2) th6.items_),kZ kG kB kA kH A67 (a0.toNat::[])]) (fun _ hw=>by rw[xr [v74,(gv (kH a0.toNat) 1)] _ 2 _ O,xq [v74,(gv (kH a0.toNat) 1)] _ 2 _ O];exact hw)<|bi1 h fun l78 el78 h=>bL (row:=TStore.rowA kB kA) (sub:=TStore.subA kB kA) (e:=67) (g:=kG) (gh:=kH) (vs':=([v74,(gv (kH a0.toNat) 1)]++ghl (qN (kH a0.toNat) 2) th6.items_.length)) (m':=[.sl (sv b73 1) 127 1 (([x68]).map (PR kA)),yV kA q67 l69 []]) [3,0,4,5,6,7,1,2] el78 O fun q77=>az (D:=Cls w F [kZ kG kB kA q77 l78 [],.sl (sv b73 1) 127 1 (([x68]).map (PR kA)),yV kA q67 l69 []]) hI<|rT fun w1 hw=>?_)
  cases h
  exact⟨_,_,O,⟨_,_,_,(hg130▸xO),O,O⟩,hw.s [0,2]⟩
 replace h:=qT h
 cases h
 exact L.r 1 O<|cjb<|L.r 1 O<|cjc<|ak<|aM<|az (D:=Cls w F [kZ kG kB kA kH A67 [],yV kA kN kK []]) (asI [2,5,6,3,4,0,1] kR O)<|rT fun w1 hw=>⟨_,_,O,⟨_,_,_,(hg130▸xO),O,O⟩,hw⟩
theorem W56{a0 a1 a2 A67 kK kG kB kA kH kN w r F}(h:M56 a0 a1 a2 A67 kK=some r)(hc0:Cls w F (tbg kG kB kA kH A67 kN kK) w):qz Tryz.prog 56 (VP kG a0::tcH a1 a2) F w fun u m=>u=.tuple #[VP kA r.1,.int .i64 r.2]∧m=(tbg kG kB kA kH A67 kN kK):=by
 rw[M56]at h
 refine body (n:=33) Tryz.func56 O O O hc0<|bi1 h fun th1 kR h=>bC (D:=tS w F kG a0 kB th1 kH kA A67 kN kK) (aoI 0 O kR)<|sr<|L.r 2 O<|cjf<|L.r 1 O<|yNF O kR qaI<|bi1 h fun _ en2 h=>?_
 obtain⟨_,en2⟩:=qd en2
 refine ibL h (al (q:=0) (si:=3) (ps:=4) (j:=0) (X:=[.bool th1.down_]) ag4 O O O O (by simp[zl,qc,en2]) O) (fun c3 h=>?_) fun c3 h=>?_
 ·cases h
  exact cjb<|L.r 2 O<|cjh<|az (D:=Cls w F<|tbg kG kB kA kH A67 kN kK) (asI [0,1,2,3,4,5,6] kR O)<|rT2 d0
 refine cjl<|sr<|bd 6 (fun gs D=>∃gb1,gs=[(0,VP kG a0),(1,.int .i64 a1),(2,.int .i64 a2),(18,.bool gb1)]∧D=Cls w F (kZ kG kB kA kH A67 (tf a0)::tC kA kN kK::tP kG a0 kB th1 kH kA)∧qgh a2 a0 a1 A67 kK gb1=some r) ?_ ?_
 ·refine L.r 1 O<|ltL h (fun c10 h=>?_) fun c10 h=>?_
  ·exact L.r 4 O<|ae<|ay ⟨true,O,O,h⟩<|sI [5,6,0,3,4,1,2]
  refine L.r 2 O<|tkL<|iL h (bU O O) (fun c11 h=>?_) fun c11 h=>?_
  ·exact L.r 1 O<|ae<|ay ⟨true,O,O,h⟩<|sI [5,6,0,3,4,1,2]
  exact L.r 1 O<|ae<|ay ⟨false,O,O,h⟩<|sI [5,6,0,3,4,1,2]
 rintro _ _ ⟨gb1,rfl,rfl,h⟩
 rw[qgh]at h
 rcases gb1 with _|_
 ·replace h:=qU h
  refine L.r 2 O<|tkL<|ltL h (fun c4 h=>?_) fun c4 h=>?_
  ·cases h
   exact L.r 5 O<|cjb<|L.r 2 O<|cjh<|az (D:=Cls w F<|tbg kG kB kA kH A67 kN kK) (asI [2,5,6,3,4,0,1] kR O)<|rT2 d0
  refine L.r 3 O<|tkL<|iL h (bU O O) (fun c5 h=>?_) fun c5 h=>?_
  ·cases h
   exact L.r 1 O<|cjb<|L.r 2 O<|cjh<|az (D:=Cls w F<|tbg kG kB kA kH A67 kN kK) (asI [2,5,6,3,4,0,1] kR O)<|rT2 d0
  refine L.r 1 O<|cjl<|sr<|L.r 2 O<|aj (D:=Cls w F<|tbg kG kB kA kH A67 kN kK) (asI [2,5,6,3,4,0,1] kR O)<|bi1 h fun x6 e7 h=>dP (tbg kG kB kA kH A67 kN kK) [] O (fun w' hw=>W55 e7 hw.lend) ?_
  rintro _ _ ⟨rfl,rfl⟩
  refine aj (D:=Cls w F<|tbg kG kB kA kH A67 kN kK) hI<|bi1 h fun th8 yR h=>aj (D:=tS w F kG a0 kB th8 kH kA A67 kN kK) (aoI 0 O yR)<|L.r 1 O<|nsr<|L.r 1 O<|iL h (cW Tryz.underlying127 O O) (fun c9 h=>?_) fun c9 h=>?_
  ·cases h
   exact cjb<|L.r 3 O<|cjh<|az (D:=Cls w F<|tbg kG kB kA kH A67 kN kK) (asI [0,1,2,3,4,5,6] yR O)<|rT2 d0
  cases h
  exact cji<|L.r 2 O<|cjc<|az (D:=Cls w F<|tbg kG kB kA kH A67 kN kK) (asI [0,1,2,3,4,5,6] yR O)<|rT2 d0
 replace h:=qT h
 cases h
 exact L.r 8 O<|cjb<|L.r 2 O<|cjh<|az (D:=Cls w F<|tbg kG kB kA kH A67 kN kK) (asI [2,5,6,3,4,0,1] kR O)<|rT2 d0
end Go.Proofs.YtloiiohoelhldaaGreatDoor
