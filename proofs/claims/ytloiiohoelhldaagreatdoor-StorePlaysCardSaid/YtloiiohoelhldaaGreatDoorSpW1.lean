import Derived.Test.YtloiiohoelhldaaGreatDoorSpV
import Derived.Test.YtloiiohoelhldaaGreatDoorSpM
import Derived.Test.YtloiiohoelhldaaGreatDoorChecked
import Derived.KernelRfl
import Derived.Test.YtloiiohoelhldaaGreatDoorZg
set_option maxRecDepth 100000
set_option maxHeartbeats 8000000
namespace Go.Proofs.YtloiiohoelhldaaGreatDoor
open Go.S
set_option linter.unusedVariables false
set_option linter.unusedSimpArgs false
theorem mixed:Tryz.prog.follows .mixedOrders=true:=by kernel_rfl
theorem ag3:qP Tryz.prog 3 false=true:=by kernel_rfl
theorem ag4:qP Tryz.prog 4 false=true:=by kernel_rfl
theorem ag9:qP Tryz.prog 9 false=true:=by kernel_rfl
theorem qj7:qP Tryz.prog 23 false=true:=by kernel_rfl
theorem qlx:qP Tryz.prog 27 false=true:=by kernel_rfl
theorem qlc:qP Tryz.prog 32 false=true:=by kernel_rfl
theorem qnY:qP Tryz.prog 36 true=true:=by kernel_rfl
theorem qnX:qP Tryz.prog 37 false=true:=by kernel_rfl
theorem qoy:qP Tryz.prog 39 true=true:=by kernel_rfl
theorem vH:qP Tryz.prog 41 true=true:=by kernel_rfl
theorem wG:qP Tryz.prog 46 true=true:=by kernel_rfl
theorem wv:qP Tryz.prog 48 false=true:=by kernel_rfl
theorem qbv:qP Tryz.prog 49 false=true:=by kernel_rfl
theorem qnW:qP Tryz.prog 55 false=true:=by kernel_rfl
theorem qnV:qP Tryz.prog 61 false=true:=by kernel_rfl
theorem qmU:qP Tryz.prog 63 false=true:=by kernel_rfl
theorem qnU:qP Tryz.prog 64 true=true:=by kernel_rfl
theorem qj6:qP Tryz.prog 65 false=true:=by kernel_rfl
theorem w8:qP Tryz.prog 69 true=true:=by kernel_rfl
theorem qlw:qP Tryz.prog 76 true=true:=by kernel_rfl
theorem qnA:qP Tryz.prog 77 false=true:=by kernel_rfl
theorem qmT:qP Tryz.prog 79 false=true:=by kernel_rfl
theorem qox:qP Tryz.prog 91 true=true:=by kernel_rfl
theorem qao:qP Tryz.prog 112 true=true:=by kernel_rfl
theorem wQ:qP Tryz.prog 127 false=true:=by kernel_rfl
theorem kq:qP Tryz.prog 143 false=true:=by kernel_rfl
theorem qcY:qP Tryz.prog 146 false=true:=by kernel_rfl
theorem qmz:qP Tryz.prog 147 false=true:=by kernel_rfl
theorem qnB:qP Tryz.prog 151 true=true:=by kernel_rfl
theorem qjc:qP Tryz.prog 188 true=true:=by kernel_rfl
theorem eL3:xf Tryz.prog 3 1 8=true:=by kernel_rfl
theorem eL5:xf Tryz.prog 5 1 1=true:=by kernel_rfl
theorem eL9:xf Tryz.prog 9 1 16=true:=by kernel_rfl
theorem qj4:xf Tryz.prog 76 2 24=true:=by kernel_rfl
theorem qnS:xf Tryz.prog 91 2 24=true:=by kernel_rfl
theorem qan:xf Tryz.prog 127 1 8=true:=by kernel_rfl
theorem qhy:xf Tryz.prog 143 1 8=true:=by kernel_rfl
theorem qmm:xf Tryz.prog 151 3 24=true:=by kernel_rfl
theorem qj3:kn Tryz.prog 16=true:=by kernel_rfl
theorem qmS:kn Tryz.prog 17=true:=by kernel_rfl
theorem qml:kn Tryz.prog 18=true:=by kernel_rfl
theorem qmR:kn Tryz.prog 39=true:=by kernel_rfl
theorem qmk:kn Tryz.prog 47=true:=by kernel_rfl
theorem qeG:kn Tryz.prog 48=true:=by kernel_rfl
theorem qiY:kn Tryz.prog 53=true:=by kernel_rfl
theorem qmQ:kn Tryz.prog 56=true:=by kernel_rfl
theorem qmP:kn Tryz.prog 57=true:=by kernel_rfl
theorem qhv:kn Tryz.prog 63=true:=by kernel_rfl
theorem qio:kn Tryz.prog 64=true:=by kernel_rfl
theorem qeF:kn Tryz.prog 68=true:=by kernel_rfl
theorem qgx:kn Tryz.prog 74=true:=by kernel_rfl
theorem qin:kn Tryz.prog 87=true:=by kernel_rfl
theorem qgw:kn Tryz.prog 96=true:=by kernel_rfl
theorem qcS:kn Tryz.prog 100=true:=by kernel_rfl
theorem qfX:kn Tryz.prog 111=true:=by kernel_rfl
theorem qhw:kn Tryz.prog 115=true:=by kernel_rfl
theorem qot:kn Tryz.prog 159=true:=by kernel_rfl
theorem qhs:qj Tryz.prog 36 0 0=true:=by kernel_rfl
theorem kx:qj Tryz.prog 36 1 1=true:=by kernel_rfl
theorem qeE:qj Tryz.prog 36 2 2=true:=by kernel_rfl
theorem qj2:qj Tryz.prog 36 3 3=true:=by kernel_rfl
theorem qhr:qj Tryz.prog 39 0 0=true:=by kernel_rfl
theorem qj1:qj Tryz.prog 39 1 4=true:=by kernel_rfl
theorem qj0:qj Tryz.prog 39 2 5=true:=by kernel_rfl
theorem xw:qj Tryz.prog 41 0 0=true:=by kernel_rfl
theorem qjZ:qj Tryz.prog 41 1 1=true:=by kernel_rfl
theorem ji:qj Tryz.prog 51 0 0=true:=by kernel_rfl
theorem qcQ:qj Tryz.prog 51 1 1=true:=by kernel_rfl
theorem y3:qj Tryz.prog 51 2 2=true:=by kernel_rfl
theorem y0:qj Tryz.prog 51 3 3=true:=by kernel_rfl
theorem jh:qj Tryz.prog 51 4 4=true:=by kernel_rfl
theorem vC:qj Tryz.prog 57 0 0=true:=by kernel_rfl
theorem qcP:qj Tryz.prog 57 1 1=true:=by kernel_rfl
theorem qcO:qj Tryz.prog 57 2 2=true:=by kernel_rfl
theorem yz:qj Tryz.prog 57 3 3=true:=by kernel_rfl
theorem qeD:qj Tryz.prog 67 0 0=true:=by kernel_rfl
theorem yx:qj Tryz.prog 67 1 2=true:=by kernel_rfl
theorem qcN:qj Tryz.prog 67 2 3=true:=by kernel_rfl
theorem qaI:qj Tryz.prog 67 3 4=true:=by kernel_rfl
theorem yw:qj Tryz.prog 67 4 5=true:=by kernel_rfl
theorem wC:qj Tryz.prog 67 5 6=true:=by kernel_rfl
theorem yv:qj Tryz.prog 67 6 26=true:=by kernel_rfl
theorem qcM:qj Tryz.prog 67 7 27=true:=by kernel_rfl
theorem qcL:qj Tryz.prog 69 0 0=true:=by kernel_rfl
theorem kc:qj Tryz.prog 69 1 1=true:=by kernel_rfl
theorem qaH:qj Tryz.prog 69 2 2=true:=by kernel_rfl
theorem kb:qj Tryz.prog 76 0 0=true:=by kernel_rfl
theorem qjY:qj Tryz.prog 76 1 1=true:=by kernel_rfl
theorem qeC:qj Tryz.prog 81 0 0=true:=by kernel_rfl
theorem wB:qj Tryz.prog 81 1 2=true:=by kernel_rfl
theorem qcK:qj Tryz.prog 81 2 3=true:=by kernel_rfl
theorem qcJ:qj Tryz.prog 81 3 4=true:=by kernel_rfl
theorem ka:qj Tryz.prog 81 4 5=true:=by kernel_rfl
theorem qjX:qj Tryz.prog 81 5 6=true:=by kernel_rfl
theorem qcI:qj Tryz.prog 81 6 26=true:=by kernel_rfl
theorem qmj:qj Tryz.prog 91 0 0=true:=by kernel_rfl
theorem qmi:qj Tryz.prog 91 1 1=true:=by kernel_rfl
theorem kf:qj Tryz.prog 108 0 0=true:=by kernel_rfl
theorem y8:qj Tryz.prog 108 1 1=true:=by kernel_rfl
theorem qdW:qj Tryz.prog 108 2 2=true:=by kernel_rfl
theorem jd:qj Tryz.prog 108 3 3=true:=by kernel_rfl
theorem ke:qj Tryz.prog 108 4 4=true:=by kernel_rfl
theorem vm:qj Tryz.prog 108 5 5=true:=by kernel_rfl
theorem wq:qj Tryz.prog 108 6 6=true:=by kernel_rfl
theorem qdV:qj Tryz.prog 112 0 0=true:=by kernel_rfl
theorem qk6:qj Tryz.prog 112 1 1=true:=by kernel_rfl
theorem qk5:qj Tryz.prog 112 2 2=true:=by kernel_rfl
theorem wo:qj Tryz.prog 122 0 0=true:=by kernel_rfl
theorem qdU:qj Tryz.prog 122 1 1=true:=by kernel_rfl
theorem qk4:qj Tryz.prog 122 2 2=true:=by kernel_rfl
theorem jb:qj Tryz.prog 122 3 3=true:=by kernel_rfl
theorem kd:qj Tryz.prog 122 4 4=true:=by kernel_rfl
theorem vk:qj Tryz.prog 122 5 5=true:=by kernel_rfl
theorem qbr:qj Tryz.prog 122 6 6=true:=by kernel_rfl
theorem qk3:qj Tryz.prog 130 0 0=true:=by kernel_rfl
theorem qbq:qj Tryz.prog 130 1 1=true:=by kernel_rfl
theorem qbp:qj Tryz.prog 130 2 2=true:=by kernel_rfl
theorem wn:qj Tryz.prog 130 3 3=true:=by kernel_rfl
theorem z6:qj Tryz.prog 130 4 4=true:=by kernel_rfl
theorem y7:qj Tryz.prog 130 5 5=true:=by kernel_rfl
theorem qdT:qj Tryz.prog 130 6 25=true:=by kernel_rfl
theorem qdS:qj Tryz.prog 130 7 26=true:=by kernel_rfl
theorem qk2:qj Tryz.prog 149 0 0=true:=by kernel_rfl
theorem qbo:qj Tryz.prog 149 1 1=true:=by kernel_rfl
theorem zy:qj Tryz.prog 149 2 2=true:=by kernel_rfl
theorem qbn:qj Tryz.prog 149 3 3=true:=by kernel_rfl
theorem qdR:qj Tryz.prog 149 4 4=true:=by kernel_rfl
theorem ja:qj Tryz.prog 149 5 5=true:=by kernel_rfl
theorem qk1:qj Tryz.prog 151 2 2=true:=by kernel_rfl
theorem qlY:qlp Tryz.prog 130=true:=by kernel_rfl
theorem qdF:qlp Tryz.prog 149=true:=by kernel_rfl
theorem sz3:szB Tryz.prog 3 1=true:=by kernel_rfl
theorem sz4:szB Tryz.prog 4 1=true:=by kernel_rfl
theorem sz9:szB Tryz.prog 9 1=true:=by kernel_rfl
theorem qfN:szB Tryz.prog 24 1=true:=by kernel_rfl
theorem qnO:szB Tryz.prog 36 4=true:=by kernel_rfl
theorem qnf:szB Tryz.prog 39 6=true:=by kernel_rfl
theorem xo:szB Tryz.prog 41 2=true:=by kernel_rfl
theorem xu:szB Tryz.prog 46 20=true:=by kernel_rfl
theorem qgF:szB Tryz.prog 48 1=true:=by kernel_rfl
theorem qku:szB Tryz.prog 49 1=true:=by kernel_rfl
theorem qne:szB Tryz.prog 55 1=true:=by kernel_rfl
theorem qlo:szB Tryz.prog 61 1=true:=by kernel_rfl
theorem qgs:szB Tryz.prog 63 1=true:=by kernel_rfl
theorem qnN:szB Tryz.prog 64 20=true:=by kernel_rfl
theorem qmL:szB Tryz.prog 65 1=true:=by kernel_rfl
theorem zu:szB Tryz.prog 69 22=true:=by kernel_rfl
theorem qaC:szB Tryz.prog 76 2=true:=by kernel_rfl
theorem qlP:szB Tryz.prog 77 1=true:=by kernel_rfl
theorem qof:szB Tryz.prog 79 1=true:=by kernel_rfl
theorem qnd:szB Tryz.prog 91 2=true:=by kernel_rfl
theorem z8:szB Tryz.prog 112 3=true:=by kernel_rfl
theorem jl:szB Tryz.prog 127 1=true:=by kernel_rfl
theorem qgG:szB Tryz.prog 143 1=true:=by kernel_rfl
theorem qnh:szB Tryz.prog 146 1=true:=by kernel_rfl
theorem qng:szB Tryz.prog 147 1=true:=by kernel_rfl
theorem qlQ:szB Tryz.prog 151 3=true:=by kernel_rfl
theorem qfO:szB Tryz.prog 188 256=true:=by kernel_rfl
theorem ze3:jn Tryz.prog 3=some [.int .i64 0]:=by kernel_rfl
theorem qoc:jn Tryz.prog 39=some [.int .i64 0,.int .i64 0,.int .i64 0,.string ⟨#[]⟩,.int .i64 0,tO]:=by kernel_rfl
theorem qmJ:jn Tryz.prog 41=some [.int .i64 0,.string ⟨#[]⟩]:=by kernel_rfl
theorem qis:jn Tryz.prog 46=some (List.replicate 20 (.string ⟨#[]⟩)):=by kernel_rfl
theorem qjG:jn Tryz.prog 69=some tbn:=by kernel_rfl
theorem qob:jn Tryz.prog 70=some (.int .i64 0::.bool false::.string ⟨#[]⟩::.string ⟨#[]⟩::.string ⟨#[]⟩::.string ⟨#[]⟩::.string ⟨#[]⟩::.string ⟨#[]⟩::.string ⟨#[]⟩::.string ⟨#[]⟩::.string ⟨#[]⟩::.string ⟨#[]⟩::.string ⟨#[]⟩::.string ⟨#[]⟩::.string ⟨#[]⟩::.string ⟨#[]⟩::.string ⟨#[]⟩::.string ⟨#[]⟩::.string ⟨#[]⟩::.string ⟨#[]⟩::.string ⟨#[]⟩::.string ⟨#[]⟩::tbn):=by kernel_rfl
theorem qm7:jn Tryz.prog 76=some [.int .i64 0,.string ⟨#[]⟩]:=by kernel_rfl
theorem qoa:jn Tryz.prog 91=some [.int .i64 0,.string ⟨#[]⟩]:=by kernel_rfl
theorem qit:jn Tryz.prog 112=some [.int .i64 0,.string ⟨#[]⟩,.int .i64 0]:=by kernel_rfl
theorem qlK:jn Tryz.prog 127=some [.pointer none]:=by kernel_rfl
theorem qm8:jn Tryz.prog 188=some (List.replicate 256 (.bool false)):=by kernel_rfl
theorem qcu(l:List Twrite):Plain (l.map Twrite.row):=by
 intro r hr u hu
 obtain⟨x,_,rfl⟩:=List.mem_map.1 hr
 simp only[Twrite.row,List.mem_cons,List.not_mem_nil,or_false]at hu
 rcases hu with rfl|rfl<;>rfl
theorem qiJ(l:List Trecord):Plain (l.map Trecord.row):=by
 intro r hr u hu
 obtain⟨x,_,rfl⟩:=List.mem_map.1 hr
 simp only[Trecord.row,List.mem_cons,List.not_mem_nil,or_false]at hu
 rcases hu with rfl|rfl|rfl<;>rfl
theorem xm(l:List TVersion):Plain (l.map TVersion.row):=by
 intro r hr u hu
 obtain⟨x,_,rfl⟩:=List.mem_map.1 hr
 simp only[TVersion.row,List.mem_cons,List.not_mem_nil,or_false]at hu
 rcases hu with rfl|rfl<;>rfl
theorem qkE(l:List TWish):Plain (l.map TWish.row):=by
 intro r hr u hu
 obtain⟨x,_,rfl⟩:=List.mem_map.1 hr
 simp only[TWish.row,List.mem_cons,List.not_mem_nil,or_false]at hu
 rcases hu with rfl|rfl|rfl|rfl<;>rfl
theorem qkF(l:List TTold):Plain (l.map TTold.row):=by
 intro r hr u hu
 obtain⟨x,_,rfl⟩:=List.mem_map.1 hr
 simp only[TTold.row,List.mem_cons,List.not_mem_nil,or_false]at hu
 rcases hu with rfl|rfl<;>rfl
theorem qgW(l:List TOp):Plain (l.map TOp.row):=by
 intro r hr u hu
 obtain⟨x,_,rfl⟩:=List.mem_map.1 hr
 simp only[TOp.row,List.mem_cons,List.not_mem_nil,or_false]at hu
 rcases hu with rfl|rfl|rfl<;>rfl
theorem qou:Tryz.prog.eqGuardType Tryz.prog.depth 41=false:=by kernel_rfl
theorem qnP(x:TTold):shB Tryz.prog 5 41 x.row=true:=by kernel_rfl
theorem qnq(x y:TTold)(h:x.row=y.row):x=y:=by
 cases x;cases y
 simpa [TTold.row,qjL]using h
theorem qnu:Tryz.prog.eqGuardType Tryz.prog.depth 46=false:=by kernel_rfl
theorem qnp:(Tryz.prog.info? 9).isSome=true:=by kernel_rfl
theorem qns(z:(List UInt8)):(SR z).length=Tryz.prog.cellsOf 9:=by kernel_rfl
theorem qni(z:(List UInt8)):shB Tryz.prog 4 9 (SR z)=true:=by kernel_rfl
theorem ql9(x y:(List UInt8))(h:SR x=SR y):x=y:=by
 simpa [SR,qjL]using h
theorem W4{a0 A57 kD kS w r F}(h:M4 a0 A57=some r)(hc0:Cls w F [tx kD kS A57] w):qz Tryz.prog 4 (tH a0) F w fun u m=>∃G57 Q57,Gr kD A57.length G57 r.1.length∧u=.tuple #[VP G57 r.2.1,.int .i64 r.2.2]∧m=[jX G57 Q57 r.1 []]:=by
 rw[M4]at h
 obtain⟨g57,hg57⟩:∃g,g=kD:=⟨_,rfl⟩
 have hGr57:Gr g57 A57.length kD A57.length:=hg57▸Gr.refl _ _
 refine body (n:=37) Tryz.func4 O O O hc0<|sr<|L.r 2 O<|cjf<|L.r 1 O<|ltL h (fun c1 h=>?_) fun c1 h=>?_
 ·cases h
  exact L.r 4 O<|cjb<|L.r 2 O<|cjh<|rT2 fun w1 hw=>⟨_,_,O,⟨_,_,(hg57▸hGr57),O,O⟩,hw⟩
 refine L.r 2 O<|tkL<|gtL h (fun c2 h=>?_) fun c2 h=>?_
 ·cases h
  exact L.r 1 O<|cjb<|L.r 2 O<|cjh<|rT2 fun w1 hw=>⟨_,_,O,⟨_,_,(hg57▸hGr57),O,O⟩,hw⟩
 refine L.r 1 O<|cji<|yL (bl (cells:=#[tO,tO,tO,.int .i64 (-1)]) O (by kernel_rfl))<|bV O O fun b3=>L.r 1 O<|ln<|ar (fun gs D=>∃gx1 kD gl3 gq4,∃gu5:Unit,gs=[(4,VP kD gx1)]∧D=Cls w F [tx kD gq4 gl3]∧Gr g57 A57.length kD gl3.length∧qm0 gx1 gl3=some r) ?_ ?_
 ·refine sr<|L.r 2 O<|cjp<|W.nilSl 9 1<|W.nilSl 9 1<|W.nilSl 91 2<|W.arNew (rowg:=fun g=>TDisk.rowA) (subg:=fun g=>TDisk.subA) (e:=57) (g:=kD) (gh:=kS) (l:=A57) (hs:=[]) (b:=b3) (u1:=(⟨[],[],[],(-1)⟩:TDisk)) (vs':=[(tO),(tO),(tO)]) (m':=[]) [3,2,1,0,4] h (by decide) O (fun _ h=>nomatch h) (fun _ _ _ _ _=>⟨O,O⟩) fun kD q10 x11 l12 h hg13 hv14 hi15=>?_
  rw[hv14]
  replace hGr57:=hGr57.trans hg13
  refine bC (D:=Cls w F [tx kD q10 l12]) hI<|au (fun m gs D=>∃gx6 gl7 gq8,∃gu9:Unit,gs=[(4,VP kD x11),(13,.int .i64 a0),(14,.int .i64 gx6)]∧D=Cls w F [tx kD gq8 gl7]∧Gr g57 A57.length kD gl7.length∧qiq a0 x11 m gx6 gl7=some r) ⟨0,l12,q10,(),O,O,hGr57,h⟩ ⟨O,O,O,trivial⟩ hI ?_
  rintro m _ _ ⟨gx6,gl7,gq8,gu9,rfl,rfl,hGr57,h⟩
  rcases m with _|m
  ·rw[qiq]at h;cases h
  rw[qiq]at h
  generalize hg1:qiq a0 x11 m=go1 at h
  rw[qju]at h
  refine sr<|ltL h (fun c16 h=>?_) fun c16 h=>?_
  ·exact cjm<|aX O<|aN<|ab<|aE<|W.block<|bi1 h fun zV eth17 h=>bC (D:=Cls w F<|taa kD x11 gq8 zV gl7) (aoI 0 O eth17)<|av (k:=11) (stC [[7,10],[10]] [Cls w F (taa kD x11 gq8 zV gl7),Cls w F (taq kD x11 gq8 zV gl7)]<|Cls w F<|tcO gq8 x11 zV kD gl7) O mixed (fun _ hw=>hw.drew) sn<|aA [] (ax (ax zF<|sI [1,2,3])<|sI [2,3,4]) fun hz31=>(vR [0,1] O<|vN 2 [] O hz31 O eth17<|vQ 3 [] hz31 O (aa vC O)<|aA [10] (ax (be hI)<|sI [0,2,3,4]) fun hz32=>(vQ 4 [10] hz32 O (am (i:=0) wv O O O)<|vE 5 O<|bi1 h fun s33 e34 h=>yL (yf qmS O fun w' hw=>qa0 ([0]) 64 w' _ e34)<|ltV (stC [[7,10],[10]] [Cls w F (taa kD x11 gq8 zV gl7),Cls w F (taq kD x11 gq8 zV gl7)]<|Cls w F<|tcO gq8 x11 zV kD gl7) 5 (sT<|sT sD) sn<|vE 6 O<|aI O Tryz.underlying48 eL9 O O fun b35=>ltV (stC [[7,10],[10]] [Cls w F (tu b35 s33::taa kD x11 gq8 zV gl7),Cls w F (tu b35 s33::taq kD x11 gq8 zV gl7)]<|Cls w F (tu b35 s33::tcO gq8 x11 zV kD gl7)) 6 (Sc.stay (sI [1,2,3,4,5])<|Sc.stay (sI [1,2,3,4])<|aD<|sI [1,2,3]) sn<|vE 7 O<|bc (i:=2) (g:=SR) (l:=zV.safe_) (more:=[s33]) h O Tryz.underlying48 eL9 O O O (aG 0 O) (qi _) O fun v36 l37 el37 h=>ltV (stC [[10]] [Cls w F (tl v36 l37::tu b35 s33::taq kD x11 gq8 zV gl7)]<|Cls w F (tl v36 l37::tu b35 s33::tcO gq8 x11 zV kD gl7)) 7 (aw O<|Sc.stay (sI [1,2,3,4,5])<|aD<|sI [1,2,3,4]) sn<|aA [] (ax zF<|sI [0,1,3,4,5]) fun hz38=>(vN 8 [] O hz38 O eth17<|vQ 9 [] hz38 O (aa vC O)<|vE 10 O<|bq (i:=2) qgF O O (fun _ hw=>(As.at_ (hw.get (i:=0) O)).one) O nb<|ltV (stC [] []<|Cls w F (tl v36 l37::tu b35 s33::tcO gq8 x11 zV kD gl7)) 10 (aw O sD) (aP<|sI [0,1,3,4,5])<|vD<|cjj<|mA h fun x39 ex39 h=>L.r 1 O<|ae<|bi1 h fun l40 el40 h=>bL (row:=TDisk.rowA) (sub:=TDisk.subA) (e:=57) (g:=kD) (gh:=gq8) (vs':=[v36,(td gq8 x11),(ts gq8 x11)]) (m':=[tu b35 s33]) [2,0,3,4,5,1] el40 O fun q41=>have hGr57:=hGr57.upd el40;az (D:=Cls w F [tx kD q41 l40,tu b35 s33]) hI<|bi ⟨x39,l40,q41,(),O,O,hGr57,by rw[hg1];exact h⟩<|sI [0])))
  exact cjm<|cjd<|ay ⟨x11,kD,gl7,gq8,(),O,O,hGr57,h⟩ hI
 rintro _ _ ⟨gx1,kD,gl3,gq4,gu5,rfl,rfl,hGr57,h⟩
 rw[qm0]at h
 refine sr<|L.r 1 O<|dp O Tryz.underlying48 eL9 fun b4=>L.r 1 O<|bi1 h fun th5 jY h=>aj (D:=Cls w F [taW kD gx1 gq4 th5,.sl (tc gq4 gx1) 9 1 (th5.safe_.map SR),tbz gq4 gx1 th5,taU gq4 gx1 th5,jX kD gq4 gl3 (tf gx1),.sl (sv b4 0) 9 1 ([].map SR)]) (aoI 1 O jY)<|yNP O jY vC 0 wv O O<|bc (i:=5) (g:=SR) (l:=[]) (more:=th5.safe_) h O Tryz.underlying48 eL9 O O O (aG 1 O) (qi _) O fun v6 l7 el7 h=>yNF O jY qcP<|bq (i:=1) qgF O O (fun _ hw=>(As.at_ (hw.get (i:=0) O)).one) O nb<|nsr<|L.r 3 O<|cjc<|bi1 h fun l8 el8 h=>bL (row:=TDisk.rowA) (sub:=TDisk.subA) (e:=57) (g:=kD) (gh:=gq4) (vs':=[(tc gq4 gx1),v6,(ts gq4 gx1)]) (m':=[tbz gq4 gx1 th5]) [1,2,0,4,5,3] el8 O fun q9=>have hGr57:=hGr57.upd el8;az (D:=Cls w F [tx kD q9 l8,tbz gq4 gx1 th5]) hI<|rT2 fun w1 hw=>?_
 cases h
 exact⟨_,_,O,⟨_,_,(hg57▸hGr57),O,O⟩,hw.s [0]⟩
theorem W18{a0 w r}(h:M18 a0=some r):Does Tryz.prog 18 (tH a0) w fun u m=>u=st r∧m=[]:=by
 rw[M18]at h
 refine body (n:=5) Tryz.func18 O O O (Cls.refl w)<|sr<|L.r 1 O<|nsr<|L.r 1 O<|bi1 h fun s1 e2 h=>yL (yf qmS O fun w' hw=>qa0 ([0]) a0 w' _ e2)<|L.r 1 O<|cjc<|rT fun w1 hw=>?_
 cases h
 exact⟨_,_,O,⟨O,O⟩,hw⟩
theorem W5{a0 A51 kF kP w r F}(h:M5 a0 A51=some r)(hc0:Cls w F [tF kF kP A51] w):qz Tryz.prog 5 (tH a0) F w fun u m=>∃G51 Q51,Gr kF A51.length G51 r.1.length∧u=VP G51 r.2∧m=[yS G51 Q51 r.1 []]:=by
 rw[M5]at h
 obtain⟨g51,hg51⟩:∃g,g=kF:=⟨_,rfl⟩
 have hGr51:Gr g51 A51.length kF A51.length:=hg51▸Gr.refl _ _
 refine body (n:=31) Tryz.func5 O O O hc0<|sr<|L.r 1 O<|nsr<|yL (bl (cells:=#[tO,tO,tO,tO,.int .i64 (-1)]) O (by kernel_rfl))<|bV O O fun b1=>L.r 1 O<|ln<|ar (fun gs D=>∃gx1 kF gl3 gq4,∃gu5:Unit,gs=[(3,VP kF gx1)]∧D=Cls w F [tF kF gq4 gl3]∧Gr g51 A51.length kF gl3.length∧qmZ gx1 gl3=some r) ?_ ?_
 ·refine sr<|L.r 2 O<|cjp<|W.nilSl 9 1<|W.nilSl 9 1<|W.nilSl 3 1<|W.nilSl 9 1<|W.arNew (rowg:=fun g=>TDisk51.rowA) (subg:=fun g=>TDisk51.subA) (e:=51) (g:=kF) (gh:=kP) (l:=A51) (hs:=[]) (b:=b1) (u1:=(⟨[],[],[],[],(-1)⟩:TDisk51)) (vs':=[(tO),(tO),(tO),(tO)]) (m':=[]) [4,3,2,1,0,5] h (by decide) O (fun _ h=>nomatch h) (fun _ _ _ _ _=>⟨O,O⟩) fun kF q2 x3 l4 h hg5 hv6 hi7=>?_
  rw[hv6]
  replace hGr51:=hGr51.trans hg5
  refine bC (D:=Cls w F [tF kF q2 l4]) hI<|au (fun m gs D=>∃gx6 gl7 gq8,∃gu9:Unit,gs=[(3,VP kF x3),(6,.int .i64 a0),(7,.int .i64 gx6)]∧D=Cls w F [tF kF gq8 gl7]∧Gr g51 A51.length kF gl7.length∧qip a0 x3 m gx6 gl7=some r) ⟨0,l4,q2,(),O,O,hGr51,h⟩ ⟨O,O,O,trivial⟩ hI ?_
  rintro m _ _ ⟨gx6,gl7,gq8,gu9,rfl,rfl,hGr51,h⟩
  rcases m with _|m
  ·rw[qip]at h;cases h
  rw[qip]at h
  generalize hg1:qip a0 x3 m=go1 at h
  rw[qjq]at h
  refine sr<|ltL h (fun c8 h=>?_) fun c8 h=>?_
  ·exact cjm<|aX O<|aN<|ab<|aE<|W.block<|bi1 h fun th9 eth9 h=>bC (D:=Cls w F<|taE kF x3 gq8 th9 gl7) (aoI 0 O eth9)<|av (k:=22) (tbY w F kF x3 gq8 th9 gl7) O mixed (fun _ hw=>hw.drew) sn<|aA [] (ax (ax (ax zF<|sI [1,2,3])<|sI [2,3,4])<|sI [3,4,5]) fun hz39=>(vR [0,1,2] O<|vN 3 [] O hz39 O eth9<|vQ 4 [] hz39 O (aa ji O)<|aA [18] (ax (ax (be hI)<|sI [0,2,3,4])<|sI [0,3,4,5]) fun hz40=>(vQ 5 [18] hz40 O (am (i:=0) wv O O O)<|vR [9] O<|vN 10 [] O hz39 O eth9<|vQ 11 [] hz39 O (aa qcQ O)<|vQ 12 [18] hz40 O (am (i:=0) wv O O O)<|vE 6 O<|bi1 h fun s41 e42 h=>yL (yf qml O fun w' hw=>W18 e42)<|ltV (tbY w F kF x3 gq8 th9 gl7) 6 (sT<|sT<|sT sD) sn<|vE 7 O<|aI O Tryz.underlying48 eL9 O O fun b43=>ltV (stC [[8,15,18],[15,18],[18]] [Cls w F (tu b43 s41::.obj (kF x3.toNat) [(tc gq8 x3),(td gq8 x3),(ts gq8 x3),(tz gq8 x3),.int .i64 th9.left_] 51::.sl (tc gq8 x3) 9 1 (th9.Seen.map SR)::tV gq8 x3 th9 kF gl7),Cls w F (tu b43 s41::.obj (kF x3.toNat) [(tc gq8 x3),(td gq8 x3),(ts gq8 x3),(tz gq8 x3),.int .i64 th9.left_] 51::tV gq8 x3 th9 kF gl7),Cls w F (tu b43 s41::tal kF x3 gq8 th9 gl7)]<|Cls w F (tu b43 s41::taQ gq8 x3 th9 kF gl7)) 7 (Sc.stay (sI [1,2,3,4,5,6])<|Sc.stay (sI [1,2,3,4,5])<|Sc.stay (sI [1,2,3,4])<|aD<|sI [1,2,3]) sn<|vE 8 O<|bc (i:=2) (g:=SR) (l:=th9.Seen) (more:=[s41]) h O Tryz.underlying48 eL9 O O O (aG 0 O) (qi _) O fun v44 l45 el45 h=>ltV (tci w F v44 l45 b43 s41 kF x3 gq8 th9 gl7) 8 (aw O<|Sc.stay (sI [1,2,3,4,5,6])<|Sc.stay (sI [1,2,3,4,5])<|aD<|sI [1,2,3,4]) sn<|vE 13 O<|bi1 h fun s46 e47 h=>yL (yf qml O fun w' hw=>W18 e47)<|ltV (tci w F v44 l45 b43 s41 kF x3 gq8 th9 gl7) 13 (sT<|sT sD) sn<|vE 14 O<|aI O Tryz.underlying48 eL9 O O fun b48=>ltV (stC [[15,18],[18]] [Cls w F (tu b48 s46::tl v44 l45::tu b43 s41::.obj (kF x3.toNat) [(tc gq8 x3),(td gq8 x3),(ts gq8 x3),(tz gq8 x3),.int .i64 th9.left_] 51::tV gq8 x3 th9 kF gl7),Cls w F (tu b48 s46::tl v44 l45::tu b43 s41::tal kF x3 gq8 th9 gl7)]<|Cls w F (tu b48 s46::tl v44 l45::tu b43 s41::taQ gq8 x3 th9 kF gl7)) 14 (Sc.stay (sI [1,2,3,4,5,6,7])<|Sc.stay (sI [1,2,3,4,5,6])<|aD<|sI [1,2,3,4,5]) sn<|vE 15 O<|bc (i:=4) (g:=SR) (l:=th9.Safe) (more:=[s46]) h O Tryz.underlying48 eL9 O O O (aG 0 O) (qi _) O fun v49 l50 el50 h=>ltV (stC [[18]] [Cls w F (tl v49 l50::tu b48 s46::tl v44 l45::tu b43 s41::tal kF x3 gq8 th9 gl7)]<|Cls w F (tl v49 l50::tu b48 s46::tl v44 l45::tu b43 s41::taQ gq8 x3 th9 kF gl7)) 15 (aw O<|Sc.stay (sI [1,2,3,4,5,6,7])<|aD<|sI [1,2,3,4,5,6]) sn<|aA [] (ax zF<|sI [0,1,2,3,5,6,7]) fun hz51=>(vN 16 [] O hz51 O eth9<|vQ 17 [] hz51 O (aa ji O)<|vE 18 O<|bq (i:=4) qgF O O (fun _ hw=>(As.at_ (hw.get (i:=2) O)).one) O nb<|ltV (stC [] []<|Cls w F (tl v49 l50::tu b48 s46::tl v44 l45::tu b43 s41::taQ gq8 x3 th9 kF gl7)) 18 (aw O sD) (aP<|sI [0,1,2,3,5,6,7])<|aA [] zF fun hz52=>(vN 19 [] O hz52 O eth9<|vQ 20 [] hz52 O (aa qcQ O)<|vE 21 O<|bq (i:=4) qgF O O (fun _ hw=>(As.at_ (hw.get (i:=0) O)).one) O nb<|ltV (stC [] []<|Cls w F (tl v49 l50::tu b48 s46::tl v44 l45::tu b43 s41::taQ gq8 x3 th9 kF gl7)) 21 sD (aP<|sI [0,1,2,3,5,6,7])<|vD<|cjj<|mA h fun x53 ex53 h=>(L.r 1 O<|ae<|bi1 h fun l54 el54 h=>bL (row:=TDisk51.rowA) (sub:=TDisk51.subA) (e:=51) (g:=kF) (gh:=gq8) (vs':=[v44,v49,(ts gq8 x3),(tz gq8 x3)]) (m':=[tu b48 s46,tu b43 s41]) [4,2,0,5,6,7,1,3] el54 O fun q55=>have hGr51:=hGr51.upd el54;az (D:=Cls w F [tF kF q55 l54,tu b48 s46,tu b43 s41]) hI<|bi ⟨x53,l54,q55,(),O,O,hGr51,by rw[hg1];exact h⟩<|sI [0])))))
  exact cjm<|cjd<|ay ⟨x3,kF,gl7,gq8,(),O,O,hGr51,h⟩ hI
 rintro _ _ ⟨gx1,kF,gl3,gq4,gu5,rfl,rfl,hGr51,h⟩
 rw[qmZ]at h
 cases h
 exact sr<|L.r 2 O<|cjc<|rT fun w1 hw=>⟨_,_,O,⟨_,_,(hg51▸hGr51),O,O⟩,hw⟩
theorem W19{a0 A57 kD kS w r F}(h:M19 a0 A57=some r)(hc0:Cls w F [tx kD kS A57] w):qz Tryz.prog 19 [VP kD a0] F w fun u m=>u=.int .i64 r∧m=[tx kD kS A57]:=by
 rw[M19]at h
 refine body (n:=8) Tryz.func19 O O O hc0<|sr<|L.r 1 O<|nsr<|L.r 1 O<|bi1 h fun th1 kR h=>aj (D:=Cls w F<|taa kD a0 kS th1 A57) (aoI 0 O kR)<|yNP O kR vC 0 wv O O<|yL (aF (g:=SR) (l:=th1.safe_) Tryz.underlying48 O<|aG 1 O)<|L.r 1 O<|cjc<|az (D:=Cls w F [tx kD kS A57]) (asI [0,1,2,3,4] kR O)<|rT fun w1 hw=>?_
 cases h
 exact⟨_,_,O,⟨O,O⟩,hw⟩
theorem W16{a0 a1 A57 kD kS w r F}(h:M16 a0 a1 A57=some r)(hc0:Cls w F [tx kD kS A57] w):qz Tryz.prog 16 [VP kD a0,.int .i64 a1] F w fun u m=>u=.tuple #[st r.1,.int .i64 r.2]∧m=[tx kD kS A57]:=by
 rw[M16]at h
 refine body (n:=29) Tryz.func16 O O O hc0<|sr<|L.r 2 O<|cjf<|L.r 1 O<|ltL h (fun c1 h=>?_) fun c1 h=>?_
 ·cases h
  exact L.r 9 O<|cjb<|L.r 2 O<|cjh<|rT2 d0
 refine L.r 3 O<|tkL<|bi1 h fun th2 jU h=>aj (D:=Cls w F<|taa kD a0 kS th2 A57) (aoI 0 O jU)<|yN O jU<|tkL<|yF vC O<|tkL<|yP 0 wv O O O<|tkL<|yL (aF (g:=SR) (l:=th2.safe_) Tryz.underlying48 O<|aG 1 O)<|tkL<|iL h (bU O O) (fun c3 h=>?_) fun c3 h=>?_
 ·cases h
  exact L.r 1 O<|cjb<|L.r 2 O<|cjh<|az (D:=Cls w F [tx kD kS A57]) (asI [0,1,2,3,4] jU O)<|rT2 d0
 refine L.r 1 O<|cjl<|sr<|L.r 1 O<|yNP O jU yz 0 ag3 O O<|eqL h (fun c4 h=>?_) fun c4 h=>?_
 ·cases h
  exact cjb<|L.r 2 O<|cjh<|az (D:=Cls w F [tx kD kS A57]) (asI [0,1,2,3,4] jU O)<|rT2 d0
 refine cji<|L.r 1 O<|yNP O jU qcP 0 wv O O<|L.r 1 O<|mL (fun _=>el (td kS a0)<|tbG a1) h (ap (g:=SR) (l:=th2.seen_) Tryz.underlying48 sz9 O O<|aG 2 O) fun x5 ex5 h=>(yL (aB (u:=st x5) ag9 O (aG 2 O)<|ql ex5)<|L.r 2 O<|cjc<|az (D:=Cls w F [tx kD kS A57]) (asI [0,1,2,3,4] jU O)<|rT2 fun w1 hw=>?_)
 cases h
 exact⟨_,_,O,⟨O,O⟩,hw⟩
theorem qoF{a0 a1 w r}(h:qm4 a0 a1=some r):Does Tryz.prog 119 [st a0,.int .u8 a1] w fun u m=>u=st r∧m=[]:=by
 rw[qm4]at h
 refine body (n:=23) Tryz.func119 O O O (Cls.refl w)<|sr<|L.r 1 O<|ln<|ar (fun gs D=>∃gs1,gs=[(0,st gs1)]∧D=Cls w [] []∧qdr gs1=some r) ?_ ?_
 ·refine W.block<|au (fun m gs D=>∃gs2,gs=[(0,st gs2),(1,.int .u8 a1)]∧D=Cls w [] []∧vU a1 m gs2=some r) ⟨a0,O,O,h⟩ ⟨O,O,trivial⟩ hI ?_
  rintro m _ _ ⟨gs2,rfl,rfl,h⟩
  rcases m with _|m
  ·rw[vU]at h;cases h
  rw[vU]at h
  generalize hg1:vU a1 m=go1 at h
  rw[qb9]at h
  refine aE<|sr<|L.r 1 O<|yL (aK Tryz.underlying9 O)<|gtL h (fun c1 h=>?_) fun c1 h=>?_
  ·refine L.r 3 O<|tkL<|yL (aK Tryz.underlying9 O)<|tkL<|mI h (bj O O) fun x2 ex2 h=>(tkL<|mL (fun x3=>.int .u8 x3) h (bk Tryz.underlying9 O O) fun x3 ex3 h=>(L.r 1 O<|tkL<|eqL h (fun c4 h=>?_) fun c4 h=>?_))
   ·exact L.r 1 O<|cjg<|aN<|ab<|W.block<|ah<|L.r 2 O<|yL (aK Tryz.underlying9 O)<|mI h (bj O O) fun x5 ex5 h=>(mL (fun s6=>st s6) h (bn Tryz.underlying9 O O) fun s6 es6 h=>(L.r 1 O<|ae<|aq<|bi ⟨s6,O,O,by rw[hg1];exact h⟩ hI))
   exact L.r 1 O<|ln<|cjd<|ay ⟨gs2,O,O,h⟩ hI
  exact L.r 9 O<|ln<|cjd<|ay ⟨gs2,O,O,h⟩ hI
 rintro _ _ ⟨gs1,rfl,rfl,h⟩
 rw[qdr]at h
 cases h
 exact sr<|L.r 2 O<|cjc<|rT d0
theorem qoG{a0 a1 w r}(h:qm5 a0 a1=some r):Does Tryz.prog 118 [st a0,.int .u8 a1] w fun u m=>u=st r∧m=[]:=by
 rw[qm5]at h
 refine body (n:=17) Tryz.func118 O O O (Cls.refl w)<|sr<|L.r 1 O<|ln<|ar (fun gs D=>∃gs1,gs=[(0,st gs1)]∧D=Cls w [] []∧qds gs1=some r) ?_ ?_
 ·refine W.block<|au (fun m gs D=>∃gs2,gs=[(0,st gs2),(1,.int .u8 a1)]∧D=Cls w [] []∧vV a1 m gs2=some r) ⟨a0,O,O,h⟩ ⟨O,O,trivial⟩ hI ?_
  rintro m _ _ ⟨gs2,rfl,rfl,h⟩
  rcases m with _|m
  ·rw[vV]at h;cases h
  rw[vV]at h
  generalize hg1:vV a1 m=go1 at h
  rw[qca]at h
  refine aE<|sr<|L.r 1 O<|yL (aK Tryz.underlying9 O)<|gtL h (fun c1 h=>?_) fun c1 h=>?_
  ·refine L.r 2 O<|tkL<|mL (fun x2=>.int .u8 x2) h (bk Tryz.underlying9 O O) fun x2 ex2 h=>(L.r 1 O<|tkL<|eqL h (fun c3 h=>?_) fun c3 h=>?_)
   ·exact L.r 1 O<|cjg<|aN<|ab<|W.block<|ah<|L.r 1 O<|mL (fun s4=>st s4) h (aU Tryz.underlying9 O O) fun s4 es4 h=>(L.r 1 O<|ae<|aq<|bi ⟨s4,O,O,by rw[hg1];exact h⟩ hI)
   exact L.r 1 O<|ln<|cjd<|ay ⟨gs2,O,O,h⟩ hI
  exact L.r 6 O<|ln<|cjd<|ay ⟨gs2,O,O,h⟩ hI
 rintro _ _ ⟨gs1,rfl,rfl,h⟩
 rw[qds]at h
 cases h
 exact sr<|L.r 2 O<|cjc<|rT d0
theorem qoZ{a0 w r}(h:qn7 a0=some r):Does Tryz.prog 120 [st a0] w fun u m=>u=.tuple #[.agg (r.1.map B).flatten.toArray,.bool r.2]∧m=[]:=by
 rw[qn7]at h
 refine body (n:=21) Tryz.func120 O O O (Cls.refl w)<|sr<|L.alloc O qm8 fun b1=>aj (D:=Cls w [] [.obj b1 (((List.replicate 256 (false:Bool)).map B).flatten) 188]) (fun _ hw=>by first|exact hw|simpa [I,B,SR]using hw)<|L.r 1 O<|ln<|ar (fun gs D=>∃gl1,gs=[(2,pt b1 0)]∧D=Cls w [] [.obj b1 ((gl1.map B).flatten) 188]∧qie gl1=some r) ?_ ?_
 ·refine sr<|L.r 1 O<|cjp<|au (fun m gs D=>∃gx2 gl3,gs=[(0,st a0),(2,pt b1 0),(4,.int .i64 gx2)]∧D=Cls w [] [.obj b1 ((gl3.map B).flatten) 188]∧qaW a0 m gx2 gl3=some r) ⟨0,(List.replicate 256 (false:Bool)),O,O,h⟩ ⟨O,O,O,trivial⟩ hI ?_
  rintro m _ _ ⟨gx2,gl3,rfl,rfl,h⟩
  rcases m with _|m
  ·rw[qaW]at h;cases h
  rw[qaW]at h
  generalize hg1:qaW a0 m=go1 at h
  rw[qid]at h
  refine aE<|sr<|L.r 2 O<|yL (aK Tryz.underlying9 O)<|ltL h (fun c6 h=>?_) fun c6 h=>?_
  ·refine cjg<|aN<|ab<|aE<|W.block<|sr<|L.r 2 O<|mL (fun x7=>.int .u8 x7) h (bk Tryz.underlying9 O O) fun x7 ex7 h=>(L.r 1 O<|cjf<|L.r 1 O<|iL h (bU O O) (fun c8 h=>?_) fun c8 h=>?_)
   ·refine cjb<|bi1 h fun _ en9 h=>?_
    obtain⟨_,en9⟩:=qd en9
    refine yL (a8 (q:=0) (row:=B) (k:=1) qjc qfO O O (fun _=>O) (by rw[en9]))<|bi1 h fun _ en10 h=>?_
    obtain⟨_,en10⟩:=qd en10
    obtain⟨_,en11,h⟩:=qq h
    obtain⟨_,en11⟩:=qd en11
    refine aY (i:=0) (row:=B) (k:=1) en10 en11 O (fun _=>O) (yi _) qfO O O O<|L.r 1 O<|cjh<|cjk<|bi1 h fun _ en12 h=>?_
    obtain⟨_,en12⟩:=qd en12
    cases h
    exact bm O (br (i:=0) (row:=B) (k:=1) qjc qfO O O (fun _=>O) (by rw[en12])) (aL O)<|d0s []
   exact cja<|ab<|ah<|L.r 1 O<|mL (fun _=>pt b1 (0+x7.toNat*1)) h (cA (l:=gl3) Tryz.underlying188 sz4 O O) fun x13 ex13 h=>(cj (q:=0) (row:=B) (vs:=[.bool true]) (j:=0) (u1:=true) h sz4 O O O O O (qW O zg) O (fun _=>O) (qm ex13) O O fun l14 el14 h=>ae<|cjj<|L.r 1 O<|mA h fun x15 ex15 h=>(L.r 1 O<|ae<|bi ⟨x15,l14,O,O,by rw[hg1];exact h⟩ hI))
  exact ln<|cjd<|ay ⟨gl3,O,O,h⟩ hI
 rintro _ _ ⟨gl1,rfl,rfl,h⟩
 rw[qie]at h
 refine sr<|bi1 h fun _ en2 h=>?_
 obtain⟨_,en2⟩:=qd en2
 refine yL (a8 (q:=0) (row:=B) (k:=1) qjc qfO O O (fun _=>O) (by rw[en2]))<|bi1 h fun _ en3 h=>?_
 obtain⟨_,en3⟩:=qd en3
 obtain⟨_,en4,h⟩:=qq h
 obtain⟨_,en4⟩:=qd en4
 refine aY (i:=0) (row:=B) (k:=1) en3 en4 O (fun _=>O) (yi _) qfO O O O<|L.r 1 O<|cjc<|bi1 h fun _ en5 h=>?_
 obtain⟨_,en5⟩:=qd en5
 cases h
 exact bm O (br (i:=0) (row:=B) (k:=1) qjc qfO O O (fun _=>O) (by rw[en5])) (aL O)<|d0s []
theorem qoY{a0 w r}(h:qn6 a0=some r):Does Tryz.prog 159 [.int .u8 a0] w fun u m=>u=.bool r∧m=[]:=by
 rw[qn6]at h
 cases h
 exact body (n:=6) Tryz.func159 O O O (Cls.refl w)<|sr<|L.r 1 O<|nsr<|L.r 1 O<|yL (eQ O O)<|yL (d5 O O)<|L.r 1 O<|cjc<|rT d0
theorem qoW{a0 w r}(h:qn4 a0=some r):Does Tryz.prog 169 [.int .i32 a0] w fun u m=>u=.bool r∧m=[]:=by
 rw[qn4]at h
 refine body (n:=17) Tryz.func169 O O O (Cls.refl w)<|sr<|L.r 1 O<|cjm<|W.block<|sr<|bd 6 (fun gs D=>∃gb1,gs=[(0,.int .i32 a0),(9,.bool gb1)]∧D=Cls w [] []∧qdo a0 gb1=some r) ?_ ?_
 ·refine L.r 1 O<|iL h (cy O O) (fun c3 h=>?_) fun c3 h=>?_
  ·refine L.r 2 O<|tkL<|ltL h (fun c4 h=>?_) fun c4 h=>?_
   ·exact L.r 1 O<|ae<|ay ⟨true,O,O,h⟩ hI
   exact L.r 1 O<|ae<|ay ⟨false,O,O,h⟩ hI
  exact L.r 4 O<|ae<|ay ⟨false,O,O,h⟩ hI
 rintro _ _ ⟨gb1,rfl,rfl,h⟩
 rw[qdo]at h
 rcases gb1 with _|_
 ·replace h:=qU h
  refine L.r 1 O<|cjn<|bd 6 (fun gs D=>∃gb2,gs=[(16,.bool gb2)]∧D=Cls w [] []∧qdn gb2=some r) ?_ ?_
  ·refine L.r 1 O<|ltL h (fun c1 h=>?_) fun c1 h=>?_
   ·refine L.r 2 O<|tkL<|iL h (cy O O) (fun c2 h=>?_) fun c2 h=>?_
    ·exact L.r 1 O<|ae<|ay ⟨true,O,O,h⟩ hI
    exact L.r 1 O<|ae<|ay ⟨false,O,O,h⟩ hI
   exact L.r 4 O<|ae<|ay ⟨false,O,O,h⟩ hI
  rintro _ _ ⟨gb2,rfl,rfl,h⟩
  rw[qdn]at h
  rcases gb2 with _|_
  ·replace h:=qU h
   cases h
   exact L.r 1 O<|cja<|aq<|ab<|sr<|L.r 1 O<|cjc<|rT d0
  replace h:=qT h
  cases h
  exact L.r 1 O<|cjb<|L.r 1 O<|cjc<|ak<|aM<|rT d0
 replace h:=qT h
 cases h
 exact L.r 1 O<|cjb<|L.r 1 O<|cjc<|ak<|aM<|rT d0
theorem qoV{a0 w r}(h:qn3 a0=some r):Does Tryz.prog 170 (tH a0) w fun u m=>u=.int .i64 r∧m=[]:=by
 rw[qn3]at h
 refine body (n:=6) Tryz.func170 O O O (Cls.refl w)<|sr<|L.r 1 O<|nsr<|L.r 1 O<|mA h fun x1 ex1 h=>(mI h (cu O O) fun x2 ex2 h=>(L.r 1 O<|cjc<|rT fun w1 hw=>?_))
 cases h
 exact⟨_,_,O,⟨O,O⟩,hw⟩
theorem W80{a0 a1 w r}(h:M80 a0 a1=some r):Does Tryz.prog 80 [st a0,st a1] w fun u m=>u=st r∧m=[]:=by
 rw[M80]at h
 refine body (n:=43) Tryz.func80 O O O (Cls.refl w)<|sr<|L.r 1 O<|cjf<|L.r 1 O<|iL h (bO O O) (fun c1 h=>?_) fun c1 h=>?_
 ·cases h
  exact L.r 4 O<|cjb<|L.r 2 O<|cjh<|rT d0
 refine L.r 2 O<|tkL<|iL h (bO O O) (fun c2 h=>?_) fun c2 h=>?_
 ·cases h
  exact L.r 1 O<|cjb<|L.r 2 O<|cjh<|rT d0
 refine L.r 1 O<|cjl<|sr<|L.r 1 O<|yL (aK Tryz.underlying9 O)<|eqL h (fun c3 h=>?_) fun c3 h=>?_
 ·refine L.r 2 O<|tkL<|mL (fun x4=>.int .u8 x4) h (bk Tryz.underlying9 O O) fun x4 ex4 h=>(tkL<|ltL h (fun c5 h=>?_) fun c5 h=>?_)
  ·refine L.r 1 O<|cjg<|aE<|aZ mixed (by kernel_rfl) (fun _ hw=>hw.drew) fun hC=>(U.r 2 O<|fR (V:=fun x6=>.int .u8 x6) h O (bk Tryz.underlying9 O O) fun x6 ex6 h=>bi1 h fun s7 e8 h=>fQ O (ye O fun w' hw=>qoF e8)<|U.r 1 O<|fR (V:=fun x9=>.int .u8 x9) h O (bk Tryz.underlying9 O O) fun x9 ex9 h=>bi1 h fun s10 e11 h=>fQ O (ye O fun w' hw=>qoG e11)<|U.r 1 O<|bo<|ab<|bK<|aM<|rT fun w1 hw=>?_)
   cases h
   exact⟨_,_,O,⟨O,O⟩,hw⟩
  refine L.r 1 O<|cjl<|sr<|L.r 1 O ?_
  cases h
 refine L.r 5 O<|cjl<|sr<|L.r 1 O ?_
 cases h
theorem W83{a0 w r}(h:M83 a0=some r):Does Tryz.prog 83 [st a0] w fun u m=>u=.tuple #[.int .u64 r.1,.int .i64 r.2.1,.int .i64 r.2.2]∧m=[]:=by
 rw[M83]at h
 refine body (n:=42) Tryz.func83 O O O (Cls.refl w)<|sr<|L.r 3 O<|nsr<|L.r 1 O<|ln<|ar (fun gs D=>gs=[]∧D=Cls w [] []∧qjk=some r) ?_ ?_
 ·refine sr<|L.r 1 O<|yL (aK Tryz.underlying9 O)<|L.r 1 O<|cjp<|au (fun m gs D=>∃gx1 gx2,gs=((0,st a0)::(5,.int .u64 gx1)::tcp a0 gx2)∧D=Cls w [] []∧wS a0 m gx1 gx2=some r) ⟨0,0,O,O,h⟩ ⟨O,O,O,O,trivial⟩ hI ?_
  rintro m _ _ ⟨gx1,gx2,rfl,rfl,h⟩
  rcases m with _|m
  ·rw[wS]at h;cases h
  rw[wS]at h
  generalize hg1:wS a0 m=go1 at h
  rw[qeT]at h
  refine sr<|ltL h (fun c1 h=>?_) fun c1 h=>?_
  ·refine cje<|L.r 2 O<|cjm<|ah<|L.r 2 O<|mL (fun x2=>.int .u8 x2) h (bk Tryz.underlying9 O O) fun x2 ex2 h=>(L.r 1 O<|ln<|ar (fun gs D=>gs=((0,st a0)::(5,.int .u64 gx1)::(6,.int .i64 gx2)::(7,.int .u8 x2)::tcp a0 gx2)∧D=Cls w [] []∧qc1 gx2 x2 gx1 go1=some r) ?_ ?_)
   ·refine sr<|L.r 1 O<|eqL h (fun c11 h=>?_) fun c11 h=>?_
    ·refine L.r 2 O<|tkL<|gtL h (fun c12 h=>?_) fun c12 h=>?_
     ·cases h
      exact L.r 1 O<|cjb<|L.r 3 O<|cjc<|bW<|cjk<|rT3 d0
     exact L.r 1 O<|cja<|ay ⟨O,O,h⟩ hI
    exact L.r 4 O<|cja<|ay ⟨O,O,h⟩ hI
   rintro _ _ ⟨rfl,rfl,h⟩
   rw[qc1]at h
   refine sr<|L.r 2 O<|yL (eQ O O)<|yL (a7 Tryz.underlying5 Tryz.underlying156 O)<|L.r 1 O<|mI h (df O O) fun x3 ex3 h=>(mL (fun x4=>.int .u64 x4) h (dC O O) fun x4 ex4 h=>(yL (fA O O)<|L.r 1 O<|nsr<|L.r 1 O<|ltL h (fun c5 h=>?_) fun c5 h=>?_))
   ·refine cjg<|aE<|sr<|L.r 1 O<|eqL h (fun c6 h=>?_) fun c6 h=>?_
    ·refine L.r 2 O<|tkL<|gtL h (fun c7 h=>?_) fun c7 h=>?_
     ·cases h
      exact L.r 1 O<|cjb<|L.r 3 O<|cjh<|cjk<|rT3 d0
     refine L.r 1 O<|cji<|L.r 2 O<|mA h fun x8 ex8 h=>(L.r 3 O<|cjc<|cjk<|rT3 fun w1 hw=>?_)
     cases h
     exact⟨_,_,O,⟨O,O⟩,hw⟩
    refine L.r 4 O<|cji<|L.r 2 O<|mA h fun x9 ex9 h=>(L.r 3 O<|cjc<|cjk<|rT3 fun w1 hw=>?_)
    cases h
    exact⟨_,_,O,⟨O,O⟩,hw⟩
   exact cja<|cjj<|mA h fun x10 ex10 h=>(L.r 1 O<|ae<|bi ⟨Go.bits .or .u64 gx1 x4,x10,O,O,by rw[hg1];exact h⟩ hI)
  exact cjm<|cjd<|bB ⟨O,O,h⟩ trivial hI
 rintro _ _ ⟨rfl,rfl,h⟩
 rw[qjk]at h
 cases h
 exact sr<|L.r 3 O<|cjc<|rT3 d0
theorem W47{a0 w r}(h:M47 a0=some r):Does Tryz.prog 47 [st a0] w fun u m=>u=.tuple #[.int .i64 r.1,.int .i64 r.2.1,.int .i64 r.2.2]∧m=[]:=by
 rw[M47]at h
 refine body (n:=28) Tryz.func47 O O O (Cls.refl w)<|sr<|L.r 3 O<|nsr<|L.r 1 O<|bi3 h fun x1 x2 x3 e4 h=>yL (ye O fun w' hw=>W83 e4)<|L.r 7 O<|cjf<|L.r 1 O<|neL h (fun c5 h=>?_) fun c5 h=>?_
 ·cases h
  exact cjb<|L.r 4 O<|cjh<|rT3 d0
 refine cji<|L.r 1 O<|mL (fun x6=>.int .u64 x6) h (cJ O O) fun x6 ex6 h=>(L.r 1 O<|cjm<|aE<|ah<|L.r 1 O<|yL (eQ O O)<|eqL h (fun c7 h=>?_) fun c7 h=>?_)
 ·cases h
  exact cjg<|ah<|L.r 1 O<|yL (eF O)<|L.r 1 O<|nsr<|L.r 1 O<|yL (a7 Tryz.underlying156 Tryz.underlying3 O)<|L.r 4 O<|cjc<|rT3 d0
 cases h
 exact cji<|L.r 1 O<|yL (a7 Tryz.underlying156 Tryz.underlying3 O)<|L.r 4 O<|cjc<|rT3 d0
theorem qnI{a0 w r}(h:qli a0=some r):Does Tryz.prog 108 [.int .u64 a0] w fun u m=>u=st r∧m=[]:=by
 rw[qli]at h
 refine body (n:=20) Tryz.func108 O O O (Cls.refl w)<|sr<|L.r 1 O<|nsr<|L.r 1 O<|ln<|ar (fun gs D=>∃gx1 gv2 gl3,gs=[(0,.int .u64 gx1),(3,gv2)]∧D=Cls w [] [.sl gv2 5 1 (gl3.map (IK .u8))]∧qfE gx1 gl3=some r) ?_ ?_
 ·refine W.block<|W.nilSl 5 1<|au (fun m gs D=>∃gx4 gv5 gl6,gs=[(0,.int .u64 gx4),(3,gv5)]∧D=Cls w [] [.sl gv5 5 1 (gl6.map (IK .u8))]∧wK m gx4 gl6=some r) ⟨a0,tO,[],O,O,h⟩ ⟨O,O,trivial⟩ hI ?_
  rintro m _ _ ⟨gx4,gv5,gl6,rfl,rfl,h⟩
  rcases m with _|m
  ·rw[wK]at h;cases h
  rw[wK]at h
  generalize hg1:wK m=go1 at h
  rw[qec]at h
  refine aE<|sr<|L.r 1 O<|iL h (bU O O) (fun c4 h=>?_) fun c4 h=>?_
  ·exact cjg<|aN<|ab<|W.block<|sr<|L.r 2 O<|yL (a7 Tryz.underlying156 Tryz.underlying5 O)<|yL (fA O O)<|aI O Tryz.underlying99 eL5 O O fun b5=>bc (i:=1) (g:=(IK .u8)) (l:=gl6) (more:=[Go.bits .or .u8 (tcD gx4) 128]) h O Tryz.underlying99 eL5 O O O (aG 0 O) (qet _) O fun v6 l7 el7 h=>L.r 1 O<|nr<|L.r 1 O<|mL (fun x8=>.int .u64 x8) h (cJ O O) fun x8 ex8 h=>(L.r 1 O<|ae<|aq<|bi ⟨x8,v6,l7,O,O,by rw[hg1];exact h⟩<|sI [0])
  exact ln<|cjd<|ay ⟨gx4,gv5,gl6,O,O,h⟩ hI
 rintro _ _ ⟨gx1,gv2,gl3,rfl,rfl,h⟩
 rw[qfE]at h
 refine sr<|L.r 2 O<|yL (a7 Tryz.underlying156 Tryz.underlying5 O)<|aI O Tryz.underlying99 eL5 O O fun b1=>bc (i:=1) (g:=(IK .u8)) (l:=gl3) (more:=[tcD gx1]) h O Tryz.underlying99 eL5 O O O (aG 0 O) (qet _) O fun v2 l3 el3 h=>yL (bt (l:=l3) Tryz.underlying99 Tryz.underlying5 Tryz.underlying9 O<|aG 0 O)<|L.r 1 O<|cjc<|rT fun w1 hw=>?_
 cases h
 exact⟨_,_,O,⟨O,O⟩,hw.s []⟩
theorem W63{a0 w r}(h:M63 a0=some r):Does Tryz.prog 63 (tH a0) w fun u m=>u=st r∧m=[]:=by
 rw[M63]at h
 refine body (n:=13) Tryz.func63 O O O (Cls.refl w)<|sr<|L.r 1 O<|nsr<|L.r 1 O<|yL (a7 Tryz.underlying3 Tryz.underlying156 O)<|mL (fun x1=>.int .u64 x1) h (dC O O) fun x1 ex1 h=>(L.r 1 O<|cjf<|L.r 1 O<|ltL h (fun c2 h=>?_) fun c2 h=>?_)
 ·refine cjg<|ah<|L.r 1 O<|yL (eF O)<|L.r 1 O<|nsr<|L.r 1 O<|bi1 h fun s3 e4 h=>yL (ye O fun w' hw=>qnI e4)<|L.r 1 O<|cjc<|rT fun w1 hw=>?_
  cases h
  exact⟨_,_,O,⟨O,O⟩,hw⟩
 refine cji<|L.r 1 O<|bi1 h fun s5 e6 h=>yL (ye O fun w' hw=>qnI e6)<|L.r 1 O<|cjc<|rT fun w1 hw=>?_
 cases h
 exact⟨_,_,O,⟨O,O⟩,hw⟩
theorem qoC{a0 w r}(h:qlB a0=some r):Does Tryz.prog 140 [st a0] w fun u m=>u=.int .u32 r∧m=[]:=by
 rw[qlB]at h
 refine body (n:=27) Tryz.func140 O O O (Cls.refl w)<|sr<|L.r 1 O<|nsr<|L.r 2 O<|ln<|ar (fun gs D=>∃gx1 gx2,gs=[(3,.int .u32 gx1),(4,.int .u32 gx2)]∧D=Cls w [] []∧qaV gx1 gx2=some r) ?_ ?_
 ·refine sr<|L.r 1 O<|yL (aK Tryz.underlying9 O)<|L.r 1 O<|cjp<|au (fun m gs D=>∃gx3 gx4 gx5,gs=[(0,st a0),(3,.int .u32 gx3),(4,.int .u32 gx4),(7,.int .i64 (a0.length:Int)),(8,.int .i64 gx5)]∧D=Cls w [] []∧vP a0 m gx3 gx4 gx5=some r) ⟨1,0,0,O,O,h⟩ ⟨O,O,O,O,O,trivial⟩ hI ?_
  rintro m _ _ ⟨gx3,gx4,gx5,rfl,rfl,h⟩
  rcases m with _|m
  ·rw[vP]at h;cases h
  rw[vP]at h
  generalize hg1:vP a0 m=go1 at h
  rw[qb4]at h
  refine sr<|ltL h (fun c2 h=>?_) fun c2 h=>?_
  ·exact cje<|L.r 2 O<|cjm<|ah<|L.r 3 O<|mL (fun x3=>.int .u8 x3) h (bk Tryz.underlying9 O O) fun x3 ex3 h=>(yL (a7 Tryz.underlying5 Tryz.underlying153 O)<|yL (bX O O)<|mL (fun x4=>.int .u32 x4) h (cn O O) fun x4 ex4 h=>(L.r 1 O<|nr<|L.r 2 O<|yL (bX O O)<|mL (fun x5=>.int .u32 x5) h (cn O O) fun x5 ex5 h=>(L.r 1 O<|ae<|cjj<|mA h fun x6 ex6 h=>(L.r 1 O<|ae<|bi ⟨x4,x5,x6,O,O,by rw[hg1];exact h⟩ hI))))
  exact cjm<|cjd<|ay ⟨gx3,gx4,O,O,h⟩ hI
 rintro _ _ ⟨gx1,gx2,rfl,rfl,h⟩
 rw[qaV]at h
 refine sr<|L.r 1 O<|mL (fun x1=>.int .u32 x1) h (dC O O) fun x1 ex1 h=>(L.r 1 O<|yL (fA O O)<|L.r 1 O<|cjc<|rT fun w1 hw=>?_)
 cases h
 exact⟨_,_,O,⟨O,O⟩,hw⟩
theorem qnD{a0 w r}(h:qjE a0=some r):Does Tryz.prog 125 [st a0] w fun u m=>u=.tuple #[st r.1,.int .i64 r.2]∧m=[]:=by
 rw[qjE]at h
 refine body (n:=25) Tryz.func125 O O O (Cls.refl w)<|sr<|L.r 2 O<|cjf<|L.r 1 O<|yL (aK Tryz.underlying9 O)<|gtL h (fun c1 h=>?_) fun c1 h=>?_
 ·cases h
  exact cjb<|L.r 2 O<|cjh<|rT2 d0
 refine cji<|L.r 1 O<|bi1 h fun x2 e3 h=>yL (ye O fun w' hw=>qoC e3)<|L.r 1 O<|nsr<|L.r 2 O<|mL (fun x4=>.int .u32 x4) h (cJ O O) fun x4 ex4 h=>(yL (a7 Tryz.underlying153 Tryz.underlying5 O)<|L.r 1 O<|mL (fun x5=>.int .u32 x5) h (cJ O O) fun x5 ex5 h=>(yL (a7 Tryz.underlying153 Tryz.underlying5 O)<|L.r 1 O<|mL (fun x6=>.int .u32 x6) h (cJ O O) fun x6 ex6 h=>yL (a7 Tryz.underlying153 Tryz.underlying5 O)<|L.r 1 O<|yL (a7 Tryz.underlying153 Tryz.underlying5 O)<|fq (xs:=[.tmp 13,.tmp 16,.tmp 19,.tmp 21]) O Tryz.underlying99 eL5 O O O O (by simp[Value.cells,st]) fun b7=>yL (bt (l:=[tcD x4,tcD x5,tcD x6,tcD x2]) Tryz.underlying99 Tryz.underlying5 Tryz.underlying9 O<|aG 0 O)<|mL (fun s8=>st s8) h (bg O O) fun s8 es8 h=>(L.r 2 O<|cjc<|rT2 fun w1 hw=>?_)))
 cases h
 exact⟨_,_,O,⟨O,O⟩,hw.s []⟩
theorem W81{a0 w r}(h:M81 a0=some r):Does Tryz.prog 81 (tH a0) w fun u m=>u=st r∧m=[]:=by
 rw[M81]at h
 refine body (n:=13) Tryz.func81 O O O (Cls.refl w)<|sr<|L.r 1 O<|nsr<|L.r 1 O<|bi1 h fun s1 e2 h=>yL (yf qhv O fun w' hw=>W63 e2)<|bi2 h fun s3 x4 e5 h=>yL (ye O fun w' hw=>qnD e5)<|L.r 5 O<|nsr<|L.r 1 O<|mL (fun s6=>st s6) h (bg O O) fun s6 es6 h=>(L.r 1 O<|cjc<|rT fun w1 hw=>?_)
 cases h
 exact⟨_,_,O,⟨O,O⟩,hw⟩
theorem W44{a0 w r}(h:M44 a0=some r):Does Tryz.prog 44 [st a0] w fun u m=>u=.tuple #[.int .i64 r.1,.int .i64 r.2]∧m=[]:=by
 rw[M44]at h
 refine body (n:=41) Tryz.func44 O O O (Cls.refl w)<|sr<|L.r 2 O<|cjf<|L.r 1 O<|bi1 h fun s1 e2 h=>yL (ye O fun w' hw=>W80 e2)<|iL h (bO O O) (fun c3 h=>?_) fun c3 h=>?_
 ·cases h
  exact cjb<|L.r 2 O<|cjh<|rT2 d0
 refine cji<|L.r 1 O<|mL (fun s4=>st s4) h (aU Tryz.underlying9 O O) fun s4 es4 h=>bi3 h fun x5 x6 x7 e8 h=>yL (yf qmk O fun w' hw=>W47 e8)<|L.r 7 O<|nsr<|L.r 1 O<|bi1 h fun s9 e10 h=>yL (ye O fun w' hw=>W81 e10)<|L.r 1 O<|cjf<|bd 6 (fun gs D=>∃gb1,gs=[(0,st a0),(4,.int .i64 x5),(7,st s9),(25,.bool gb1)]∧D=Cls w [] []∧qdb x5 s9 a0 gb1=some r) ?_ ?_
 ·refine L.r 1 O<|neL h (fun c17 h=>?_) fun c17 h=>?_
  ·exact L.r 4 O<|ae<|ay ⟨true,O,O,h⟩ hI
  refine L.r 2 O<|tkL<|ltL h (fun c18 h=>?_) fun c18 h=>?_
  ·exact L.r 1 O<|ae<|ay ⟨true,O,O,h⟩ hI
  exact L.r 1 O<|ae<|ay ⟨false,O,O,h⟩ hI
 rintro _ _ ⟨gb1,rfl,rfl,h⟩
 rw[qdb]at h
 rcases gb1 with _|_
 ·replace h:=qU h
  refine L.r 2 O<|tkL<|gtL h (fun c11 h=>?_) fun c11 h=>?_
  ·cases h
   exact L.r 11 O<|cjb<|L.r 2 O<|cjh<|rT2 d0
  refine L.r 4 O<|tkL<|yL (aK Tryz.underlying9 O)<|tkL<|mI h (bj O O) fun x12 ex12 h=>(tkL<|bi1 h fun s13 e14 h=>yL (yf qmS O fun w' hw=>qa0 ([0]) x12 w' _ e14)<|tkL<|mL (fun s15=>st s15) h (bg O O) fun s15 es15 h=>(L.r 1 O<|tkL<|iL h (bN O O) (fun c16 h=>?_) fun c16 h=>?_))
  ·cases h
   exact L.r 1 O<|cjb<|L.r 2 O<|cjh<|rT2 d0
  cases h
  exact L.r 1 O<|cji<|L.r 3 O<|cjc<|rT2 d0
 replace h:=qT h
 cases h
 exact L.r 14 O<|cjb<|L.r 2 O<|cjh<|rT2 d0
theorem W82{a0 a1 w r}(h:M82 a0 a1=some r):Does Tryz.prog 82 [st a0,.int .i64 a1] w fun u m=>u=.tuple #[.int .i64 r.1,st r.2.1,.bool r.2.2]∧m=[]:=by
 rw[M82]at h
 refine body (n:=47) Tryz.func82 O O O (Cls.refl w)<|sr<|L.r 3 O<|cjf<|L.r 1 O<|mL (fun s1=>st s1) h (bn Tryz.underlying9 O O) fun s1 es1 h=>(iL h (bN O O) (fun c2 h=>?_) fun c2 h=>?_)
 ·cases h
  exact cjb<|L.r 3 O<|cjh<|rT3 d0
 refine cji<|L.r 1 O<|mL (fun s3=>st s3) h (aU Tryz.underlying9 O O) fun s3 es3 h=>bi3 h fun x4 x5 x6 e7 h=>yL (yf qmk O fun w' hw=>W47 e7)<|L.r 7 O<|cjf<|L.r 1 O<|neL h (fun c8 h=>?_) fun c8 h=>?_
 ·cases h
  exact cjb<|L.r 3 O<|cjh<|rT3 d0
 refine cji<|L.r 2 O<|mA h fun x9 ex9 h=>(mL (fun s10=>st s10) h (aU Tryz.underlying9 O O) fun s10 es10 h=>bi3 h fun x11 x12 x13 e14 h=>yL (yf qmk O fun w' hw=>W47 e14)<|L.r 7 O<|cjm<|aZ mixed (by kernel_rfl) (fun _ hw=>hw.drew) fun hC=>(U.r 3 O<|fR (V:=fun x15=>.int .i64 x15) h O (bh O O) fun x15 ex15 h=>(U.r 1 O<|fR (V:=fun x16=>.int .i64 x16) h O (bh O O) fun x16 ex16 h=>(fR (V:=fun s17=>st s17) h O (aU Tryz.underlying9 O O) fun s17 es17 h=>(U.r 1 O<|da h O (dy O O) (fun c18 h=>?_) fun c18 h=>?_)))))
 ·cases h
  exact U.r 3 O<|U.take O<|fQ O (dy O O)<|U.r 4 O<|bo<|ab<|bK<|rT3 d0
 cases h
 exact U.r 8 O<|bo<|ab<|bK<|rT3 d0
theorem W84{a0 a1 a2 w r}(h:M84 a0 a1 a2=some r):Does Tryz.prog 84 (st a0::tcH a1 a2) w fun u m=>u=st r∧m=[]:=by
 rw[M84]at h
 refine body (n:=14) Tryz.func84 O O O (Cls.refl w)<|sr<|L.r 1 O<|nsr<|L.r 2 O<|bi1 h fun s1 e2 h=>yL (yf qhv O fun w' hw=>W63 e2)<|mL (fun s3=>st s3) h (bg O O) fun s3 es3 h=>(L.r 1 O<|bi1 h fun s4 e5 h=>yL (yf qhv O fun w' hw=>W63 e5)<|mL (fun s6=>st s6) h (bg O O) fun s6 es6 h=>(L.r 1 O<|cjc<|rT fun w1 hw=>?_))
 cases h
 exact⟨_,_,O,⟨O,O⟩,hw⟩
theorem W77{a0 a1 w r}(h:M77 a0 a1=some r):Does Tryz.prog 77 [st a0,st a1] w fun u m=>u=.bool r∧m=[]:=by
 rw[M77]at h
 refine body (n:=18) Tryz.func77 O O O (Cls.refl w)<|sr<|L.r 1 O<|nsr<|L.r 1 O<|yL (aK Tryz.underlying9 O)<|L.r 1 O<|yL (aK Tryz.underlying9 O)<|iL h (bU O O) (fun c1 h=>?_) fun c1 h=>?_
 ·refine L.r 3 O<|tkL<|yL (aK Tryz.underlying9 O)<|tkL<|mL (fun s2=>st s2) h (bn Tryz.underlying9 O O) fun s2 es2 h=>(L.r 1 O<|tkL<|yL (bO O O)<|L.r 2 O<|cjc<|rT fun w1 hw=>?_)
  cases h
  exact⟨_,_,O,⟨O,O⟩,hw⟩
 cases h
 exact L.r 9 O<|cjc<|rT d0
theorem W39{a0 a1 w r}(h:M39 a0 a1=some r):Does Tryz.prog 39 [st a0,st a1] w fun u m=>u=.bool r∧m=[]:=by
 rw[M39]at h
 refine body (n:=8) Tryz.func39 O O O (Cls.refl w)<|sr<|L.r 1 O<|nsr<|L.r 2 O<|bi1 h fun b1 e2 h=>yL (ye O fun w' hw=>W77 e2)<|L.r 1 O<|cjc<|rT fun w1 hw=>?_
 cases h
 exact⟨_,_,O,⟨O,O⟩,hw⟩
theorem W85{a0 w r}(h:M85 a0=some r):Does Tryz.prog 85 [st a0] w fun u m=>u=.tuple #[st r.1,.int .i64 r.2]∧m=[]:=by
 rw[M85]at h
 refine body (n:=27) Tryz.func85 O O O (Cls.refl w)<|sr<|L.r 2 O<|nsr<|L.r 1 O<|yL (aK Tryz.underlying9 O)<|mI h (bj O O) fun x1 ex1 h=>(L.r 1 O<|cjf<|L.r 1 O<|ltL h (fun c2 h=>?_) fun c2 h=>?_)
 ·cases h
  exact cjb<|L.r 2 O<|cjh<|rT2 d0
 refine cjl<|sr<|L.r 1 O<|gtL h (fun c3 h=>?_) fun c3 h=>?_
 ·cases h
  exact cjb<|L.r 2 O<|cjh<|rT2 d0
 refine cjl<|sr<|L.r 2 O<|mL (fun s4=>st s4) h (bn Tryz.underlying9 O O) fun s4 es4 h=>bi2 h fun s5 x6 e7 h=>yL (ye O fun w' hw=>qnD e7)<|L.r 5 O<|nsr<|L.r 2 O<|iL h (bN O O) (fun c8 h=>?_) fun c8 h=>?_
 ·cases h
  exact cjb<|L.r 2 O<|cjh<|rT2 d0
 refine cji<|L.r 2 O<|mL (fun s9=>st s9) h (bn Tryz.underlying9 O O) fun s9 es9 h=>(L.r 2 O<|cjc<|rT2 fun w1 hw=>?_)
 cases h
 exact⟨_,_,O,⟨O,O⟩,hw⟩
theorem W45{a0 a1 a2 A57 kQ kD kB kS kU w r F}(h:M45 a0 a1 a2 A57 kQ=some r)(hc0:Cls w F (taT kD kS A57 kB kU kQ) w):qz Tryz.prog 45 (VP kB a0::tcH a1 a2) F w fun u m=>u=.tuple #[.agg #[.int .i64 r.1.epoch_,st r.1.text_,.int .i64 r.1.size_],.bool r.2]∧m=(taT kD kS A57 kB kU kQ):=by
 rw[M45]at h
 refine body (n:=138) Tryz.func45 O O O hc0<|sr<|L.alloc O qit fun b1=>L.r 1 O<|cjf<|L.r 2 O<|bi1 h fun th2 jU h=>aj (D:=Cls w F [tj kB a0 kD th2,jV kD kB kU kQ (tf a0),tbM b1,tx kD kS A57]) (aoI 2 O jU)<|yNP O jU qdW 0 ag3 O O<|iL h (bU O O) (fun c3 h=>?_) fun c3 h=>?_
 ·cases h
  exact cjb<|yL (bl (cells:=tbH) O (by kernel_rfl))<|svL 2 tN z8 O O O<|L.r 1 O<|cjh<|az (D:=Cls w F [ty kD kB kU kQ,tbM b1,tx kD kS A57]) (asI [0,1,2,3] jU O)<|bm O (aH (i:=1) qao z8 O O O) (aL O)<|d0s [2,0]
 refine cjl<|av (k:=16) (stC [[10]] [Cls w F [tj kB a0 kD th2,jV kD kB kU kQ (tf a0),tbM b1,tx kD kS A57]]<|Cls w F [tbM b1,tx kD kS A57]) O mixed (fun _ hw=>hw.drew) sn<|aA [] (ax zF<|sI [2,3]) fun hz15=>(vR [0] O<|vN 1 [] O hz15 O jU<|vQ 2 [] hz15 O (aa kf O)<|aA [10] (be hI) fun hz16=>(vQ 3 [10] hz16 O (am (i:=0) qj7 O O O)<|vR [4] O<|vN 5 [] O hz15 O jU<|vQ 6 [] hz15 O (aa y8 O)<|vQ 7 [10] hz16 O (am (i:=0) ag3 O O O)<|vR [8] O<|vM 9 [] (fun x17=>.int .i64 x17) hz15 O h (bh O O) fun x17 ex17 h=>(vE 10 O<|aj (D:=Cls w F [ty kD kB kU kQ,tbM b1,tx kD kS A57]) (asI [0,1,2,3] jU O)<|aj (D:=Cls w F [tx kD kS A57,ty kD kB kU kQ,tbM b1]) (sI [2,0,1])<|bi2 h fun s18 x19 e20 h=>aV (A:=[tx kD kS A57]) (M:=[ty kD kB kU kQ,tbM b1]) O qj3 O (fun w' hw=>W16 e20 hw.lend) ?_)))
 rintro _ _ ⟨rfl,rfl⟩
 refine aj (D:=Cls w F [tx kD kS A57,ty kD kB kU kQ,tbM b1]) hI<|ltV (stC [] []<|Cls w F [tx kD kS A57,tbM b1]) 10 (aw O<|aD<|sI [1,0]) (aP<|sI [0,2])<|vR [11,12,13,14,15] O<|vD<|ab<|aE<|sr<|L.r 1 O<|neL h (fun c22 h=>?_) fun c22 h=>?_
 ·cases h
  exact cjb<|yL (bl (cells:=tbH) O (by kernel_rfl))<|svL 2 tN z8 O O O<|L.r 1 O<|cjh<|bm O (aH (i:=2) qao z8 O O O) (aL O)<|d0s [0,1]
 refine cji<|L.r 2 O<|bi3 h fun x23 s24 b25 e26 h=>yL (ye O fun w' hw=>W82 e26)<|L.r 3 O<|ibL h (Y.extract O O) (fun c27 h=>?_) fun c27 h=>?_
 ·refine L.r 3 O<|cjf<|L.r 1 O<|yL (bf O)<|cjl<|ah<|L.r 1 O<|bi3 h fun x28 x29 x30 e31 h=>yL (ye O fun w' hw=>W83 e31)<|L.r 7 O<|cjf<|L.r 1 O<|neL h (fun c32 h=>?_) fun c32 h=>?_
  ·cases h
   exact L.r 4 O<|cjb<|yL (bl (cells:=tbH) O (by kernel_rfl))<|svL 2 tN z8 O O O<|L.r 1 O<|cjh<|bm O (aH (i:=2) qao z8 O O O) (aL O)<|d0s [0,1]
  refine L.r 2 O<|tkL<|gtL h (fun c33 h=>?_) fun c33 h=>?_
  ·cases h
   exact L.r 1 O<|cjb<|yL (bl (cells:=tbH) O (by kernel_rfl))<|svL 2 tN z8 O O O<|L.r 1 O<|cjh<|bm O (aH (i:=2) qao z8 O O O) (aL O)<|d0s [0,1]
  refine L.r 1 O<|cji<|L.r 2 O<|yL (a7 Tryz.underlying156 Tryz.underlying3 O)<|mA h fun x34 ex34 h=>(mA h fun x35 ex35 h=>(L.r 1 O<|ae<|ab<|sr<|L.r 1 O<|ln<|ar (fun gs D=>∃gs1 gx2,gs=[(6,pt b1 0),(10,.int .i64 x23),(11,st gs1),(14,.int .i64 x29),(15,.int .i64 x35),(16,.int .i64 gx2)]∧D=Cls w F [tx kD kS A57,ty kD kB kU kQ,tbM b1]∧qhZ x35 x29 x23 gs1 gx2=some r) ?_ ?_))
  ·refine sr<|L.r 2 O<|bi1 h fun s42 e43 h=>yL (ye O fun w' hw=>W84 e43)<|L.r 1 O<|cjp<|au (fun m gs D=>∃gs3 gx4,gs=[(0,VP kB a0),(1,.int .i64 a1),(6,pt b1 0),(10,.int .i64 x23),(11,st gs3),(14,.int .i64 x29),(15,.int .i64 x35),(16,.int .i64 gx4),(17,st s42)]∧D=Cls w F [tx kD kS A57,ty kD kB kU kQ,tbM b1]∧qbO x35 a1 kQ a0 A57 s42 x29 x23 m gs3 gx4=some r) ⟨s24,1,O,O,h⟩ ⟨O,O,O,O,O,O,O,O,O,trivial⟩ hI ?_
   rintro m _ _ ⟨gs3,gx4,rfl,rfl,h⟩
   rcases m with _|m
   ·rw[qbO]at h;cases h
   rw[qbO]at h
   generalize hg1:qbO x35 a1 kQ a0 A57 s42 x29 x23 m=go1 at h
   rw[qfk]at h
   refine aE<|sr<|L.r 1 O<|yL (aK Tryz.underlying9 O)<|L.r 1 O<|ltL h (fun c44 h=>?_) fun c44 h=>?_
   ·refine cjg<|aN<|ab<|aE<|W.block<|aE<|sr<|L.r 2 O<|mA h fun x45 ex45 h=>(L.r 1 O<|bi1 h fun xB eth46 h=>aj (D:=Cls w F [tj kB a0 kD xB,jV kD kB kU kQ (tf a0),tx kD kS A57,tbM b1]) (aoI 1 O eth46)<|yNP O eth46 qdW 0 ag3 O O<|iL h (bU O O) (fun c47 h=>?_) fun c47 h=>?_)
    ·cases h
     exact cjb<|yL (bl (cells:=tbH) O (by kernel_rfl))<|svL 3 tN z8 O O O<|L.r 1 O<|cjh<|cjk<|az (D:=Cls w F [ty kD kB kU kQ,tx kD kS A57,tbM b1]) (asI [0,1,2,3] eth46 O)<|bm O (aH (i:=2) qao z8 O O O) (aL O)<|d0s [1,0]
    refine cjl<|av (k:=18) (stC [[12]] [Cls w F [tj kB a0 kD xB,jV kD kB kU kQ (tf a0),tx kD kS A57,tbM b1]]<|Cls w F [tx kD kS A57,tbM b1]) O mixed (fun _ hw=>hw.drew) sn<|aA [] (ax zF<|sI [2,3]) fun hz61=>(vR [0] O<|vN 1 [] O hz61 O eth46<|vQ 2 [] hz61 O (aa kf O)<|aA [12] (be hI) fun hz62=>(vQ 3 [12] hz62 O (am (i:=0) qj7 O O O)<|vR [4] O<|vN 5 [] O hz61 O eth46<|vQ 6 [] hz61 O (aa y8 O)<|vQ 7 [12] hz62 O (am (i:=0) ag3 O O O)<|vR [8] O<|vM 9 [] (fun x63=>.int .i64 x63) hz61 O h (bh O O) fun x63 ex63 h=>(vR [10] O<|vM 11 [] (fun x64=>.int .i64 x64) hz61 O h (bh O O) fun x64 ex64 h=>(vE 12 O<|aj (D:=Cls w F [ty kD kB kU kQ,tx kD kS A57,tbM b1]) (asI [0,1,2,3] eth46 O)<|aj (D:=Cls w F [tx kD kS A57,ty kD kB kU kQ,tbM b1]) (sI [1,0,2])<|bi2 h fun s65 x66 e67 h=>aV (A:=[tx kD kS A57]) (M:=[ty kD kB kU kQ,tbM b1]) O qj3 O (fun w' hw=>W16 e67 hw.lend) ?_))))
    rintro _ _ ⟨rfl,rfl⟩
    refine aj (D:=Cls w F [tx kD kS A57,ty kD kB kU kQ,tbM b1]) hI<|ltV (stC [] []<|Cls w F [tx kD kS A57,tbM b1]) 12 (aw O sD) (aP<|sI [0,2])<|vR [13,14,15,16,17] O<|vD<|ab<|aE<|sr<|L.r 1 O<|neL h (fun c69 h=>?_) fun c69 h=>?_
    ·cases h
     exact L.r 6 O<|cjb<|yL (bl (cells:=tbH) O (by kernel_rfl))<|svL 2 tN z8 O O O<|L.r 1 O<|cjh<|cjk<|bm O (aH (i:=2) qao z8 O O O) (aL O)<|d0s [0,1]
    refine L.r 3 O<|tkL<|bi1 h fun b70 e71 h=>yL (yf qmR O fun w' hw=>W39 e71) ?_
    rcases b70 with _|_
    ·replace h:=qU h
     cases h
     exact tkL<|yL (bf O)<|L.r 1 O<|cjb<|yL (bl (cells:=tbH) O (by kernel_rfl))<|svL 2 tN z8 O O O<|L.r 1 O<|cjh<|cjk<|bm O (aH (i:=2) qao z8 O O O) (aL O)<|d0s [0,1]
    replace h:=qT h
    exact tkL<|yL (bf O)<|L.r 1 O<|cja<|ab<|ah<|L.r 3 O<|yL (aK Tryz.underlying9 O)<|mL (fun s72=>st s72) h (aU Tryz.underlying9 O O) fun s72 es72 h=>(mL (fun s73=>st s73) h (bg O O) fun s73 es73 h=>(L.r 1 O<|ae<|cjj<|L.r 1 O<|mA h fun x74 ex74 h=>(L.r 1 O<|ae<|bi ⟨s73,x74,O,O,by rw[hg1];exact h⟩ hI)))
   exact ln<|cjd<|ay ⟨gs3,gx4,O,O,h⟩ hI
  rintro _ _ ⟨gs1,gx2,rfl,rfl,h⟩
  rw[qhZ]at h
  refine sr<|L.r 2 O<|mL (fun s36=>st s36) h (bn Tryz.underlying9 O O) fun s36 es36 h=>bi2 h fun s37 x38 e39 h=>yL (ye O fun w' hw=>W85 e39)<|L.r 5 O<|cjf<|L.r 1 O<|neL h (fun c40 h=>?_) fun c40 h=>?_
  ·cases h
   exact cjb<|yL (bl (cells:=tbH) O (by kernel_rfl))<|svL 2 tN z8 O O O<|L.r 1 O<|cjh<|bm O (aH (i:=2) qao z8 O O O) (aL O)<|d0s [0,1]
  refine cji<|L.r 3 O<|mL (fun s41=>st s41) h (aU Tryz.underlying9 O O) fun s41 es41 h=>(L.r 1 O<|yL (bl (cells:=#[.int .i64 x23,st s41,.int .i64 gx2]) O (by kernel_rfl))<|svL 2 [.int .i64 x23,st s41,.int .i64 gx2] z8 O O O<|L.r 1 O<|ae<|ab<|bK<|bm O (aH (i:=2) qao z8 O O O) (aL O) fun w1 hw=>?_)
  cases h
  exact⟨_,_,O,⟨O,O⟩,hw.s [0,1]⟩
 cases h
 exact L.r 3 O<|cjf<|L.r 1 O<|yL (bf O)<|cjb<|yL (bl (cells:=tbH) O (by kernel_rfl))<|svL 2 tN z8 O O O<|L.r 1 O<|cjh<|bm O (aH (i:=2) qao z8 O O O) (aL O)<|d0s [0,1]
theorem qnZ{a0 A57 kD kS w r F}(h:qlC a0 A57=some r)(hc0:Cls w F [tx kD kS A57] w):qz Tryz.prog 126 [VP kD a0] F w fun u m=>∃Q57,u=.int .i64 r.2∧m=[jX kD Q57 r.1 []]:=by
 rw[qlC]at h
 refine body (n:=20) Tryz.func126 O O O hc0<|sr<|L.r 1 O<|cjf<|L.r 1 O<|bi1 h fun th1 kR h=>aj (D:=Cls w F<|taa kD a0 kS th1 A57) (aoI 0 O kR)<|yNP O kR yz 0 ag3 O O<|eqL h (fun c2 h=>?_) fun c2 h=>?_
 ·cases h
  exact cjb<|L.r 1 O<|cjh<|az (D:=Cls w F [tx kD kS A57]) (asI [0,1,2,3,4] kR O)<|rT fun w1 hw=>⟨_,_,O,⟨_,O,O⟩,hw⟩
 refine cjl<|sr<|L.r 1 O<|yNP O kR yz 0 ag3 O O<|gtL h (fun c3 h=>?_) fun c3 h=>?_
 ·refine cjg<|ah<|L.r 1 O<|yNP O kR yz 0 ag3 O O<|mI h (bj O O) fun x4 ex4 h=>(yNF O kR yz<|svL 0 (tH x4) sz3 O O O<|ln<|sr<|L.r 1 O<|cjc<|bi1 h fun l5 el5 h=>bL (row:=TDisk.rowA) (sub:=TDisk.subA) (e:=57) (g:=kD) (gh:=kS) (vs':=[(tc kS a0),(td kS a0),(ts kS a0)]) (m':=[]) [0,1,2,3,4] el5 O fun q6=>az (D:=Cls w F [tx kD q6 l5]) hI<|rT fun w1 hw=>?_)
  cases h
  exact⟨_,_,O,⟨_,O,O⟩,hw⟩
 cases h
 exact cji<|L.r 1 O<|cjc<|az (D:=Cls w F [tx kD kS A57]) (asI [0,1,2,3,4] kR O)<|rT fun w1 hw=>⟨_,_,O,⟨_,O,O⟩,hw⟩
theorem W86{a0 a1 a2 A57 kD kS w r F}(h:M86 a0 a1 a2 A57=some r)(hc0:Cls w F [tx kD kS A57] w):qz Tryz.prog 86 (VP kD a0::tcQ a1 a2) F w fun u m=>∃Q57,u=.int .i64 r.2∧m=[jX kD Q57 r.1 []]:=by
 rw[M86]at h
 refine body (n:=52) Tryz.func86 O O O hc0<|sr<|L.r 1 O<|cjf<|L.r 1 O<|ltL h (fun c1 h=>?_) fun c1 h=>?_
 ·cases h
  exact L.r 9 O<|cjb<|L.r 1 O<|cjh<|rT fun w1 hw=>⟨_,_,O,⟨_,O,O⟩,hw⟩
 refine L.r 3 O<|tkL<|bi1 h fun th2 jU h=>aj (D:=Cls w F<|taa kD a0 kS th2 A57) (aoI 0 O jU)<|yN O jU<|tkL<|yF vC O<|tkL<|yP 0 wv O O O<|tkL<|yL (aF (g:=SR) (l:=th2.safe_) Tryz.underlying48 O<|aG 1 O)<|tkL<|iL h (bU O O) (fun c3 h=>?_) fun c3 h=>?_
 ·cases h
  exact L.r 1 O<|cjb<|L.r 1 O<|cjh<|az (D:=Cls w F [tx kD kS A57]) (asI [0,1,2,3,4] jU O)<|rT fun w1 hw=>⟨_,_,O,⟨_,O,O⟩,hw⟩
 refine L.r 1 O<|cjl<|sr<|L.r 1 O<|yL (aK Tryz.underlying9 O)<|gtL h (fun c4 h=>?_) fun c4 h=>?_
 ·cases h
  exact cjb<|L.r 1 O<|cjh<|az (D:=Cls w F [tx kD kS A57]) (asI [0,1,2,3,4] jU O)<|rT fun w1 hw=>⟨_,_,O,⟨_,O,O⟩,hw⟩
 refine cjl<|sr<|L.r 1 O<|aj (D:=Cls w F [tx kD kS A57]) (asI [0,1,2,3,4] jU O)<|bi2 h fun l5 x6 e7 h=>dP [tx kD kS A57] [] O (fun w' hw=>qnZ e7 hw.lend) ?_
 rintro _ _ ⟨q8,rfl,rfl⟩
 refine aj (D:=Cls w F [tx kD q8 l5]) hI<|L.r 1 O<|nsr<|L.r 1 O<|neL h (fun c9 h=>?_) fun c9 h=>?_
 ·cases h
  exact cjb<|L.r 2 O<|cjh<|rT fun w1 hw=>⟨_,_,O,⟨_,O,O⟩,hw⟩
 refine cji<|L.r 2 O<|yL (aK Tryz.underlying9 O)<|mI h (bj O O) fun x10 ex10 h=>bi1 h fun s11 e12 h=>yL (yf qmS O fun w' hw=>qa0 ([0]) x10 w' _ e12)<|mL (fun s13=>st s13) h (bg O O) fun s13 es13 h=>(L.r 1 O<|nsr<|L.r 1 O<|bi1 h fun xW eth14 h=>aj (D:=Cls w F<|taa kD a0 q8 xW l5) (aoI 0 O eth14)<|yNP O eth14 qcP 0 wv O O<|L.r 2 O<|mL (fun _=>el (td q8 a0)<|tbG a1) h (ap (g:=SR) (l:=xW.seen_) Tryz.underlying48 sz9 O O<|aG 2 O) fun x15 ex15 h=>(bw (q:=2) (row:=SR) (vs:=[st s13]) (j:=0) (u1:=s13) h sz9 O O O O O (qW O zg) O ex15 O O fun l16 el16 h=>nsr<|L.r 2 O<|yNP O eth14 qcO 0 qnW O O<|L.r 2 O<|yL (bl (cells:=#[.int .i64 a1,st s13]) O (by kernel_rfl))<|cm O Tryz.underlying55 qnS O O O fun b17=>bc (i:=4) (g:=Twrite.row) (l:=xW.late_) (more:=[(⟨a1,s13⟩:Twrite)]) h O Tryz.underlying55 qnS O O O (aG 0 O) (qcu _) O fun v18 l19 el19 h=>yNF O eth14 qcO<|bq (i:=2) qne O O (fun _ hw=>(As.at_ (hw.get (i:=0) O)).one) O nb<|nsr<|L.r 1 O<|cjc<|bi1 h fun l20 el20 h=>bL (row:=TDisk.rowA) (sub:=TDisk.subA) (e:=57) (g:=kD) (gh:=q8) (vs':=[(tc q8 a0),(td q8 a0),v18]) (m':=[.sl (sv b17 1) 91 2 (([(⟨a1,s13⟩:Twrite)]).map Twrite.row)]) [2,3,4,0,5,1] el20 O fun q21=>az (D:=Cls w F [tx kD q21 l20,.sl (sv b17 1) 91 2 (([(⟨a1,s13⟩:Twrite)]).map Twrite.row)]) hI<|rT fun w1 hw=>?_))
 cases h
 exact⟨_,_,O,⟨_,O,O⟩,hw.s [0]⟩
theorem W87{a0 a1 kQ kD kB kU w r F}(h:M87 a0 a1 kQ=some r)(hc0:Cls w F [ty kD kB kU kQ] w):qz Tryz.prog 87 [VP kB a0,.int .i64 a1] F w fun u m=>∃Q108,u=.int .i64 r.2∧m=[jV kD kB Q108 r.1 []]:=by
 rw[M87]at h
 refine body (n:=17) Tryz.func87 O O O hc0<|sr<|L.r 1 O<|nsr<|L.r 2 O<|bi1 h fun th1 kR h=>aj (D:=Cls w F [tj kB a0 kD th1,jV kD kB kU kQ (tf a0)]) (aoI 0 O kR)<|yNF O kR wq<|ibL h (am (i:=0) ag4 O O O) (fun c2 h=>?_) fun c2 h=>?_
 ·refine L.r 4 O<|yNF O kR wq<|svL 0 [.bool true] sz4 O O O<|nsr<|L.r 2 O<|cjc<|bi1 h fun l3 el3 h=>bL (row:=TLog.rowA kD) (sub:=TLog.subA kD) (e:=108) (g:=kB) (gh:=kU) (vs':=[]) (m':=[]) [0,1] el3 O fun q4=>az (D:=Cls w F [ty kD kB q4 l3]) hI<|rT fun w1 hw=>?_
  cases h
  exact⟨_,_,O,⟨_,O,O⟩,hw⟩
 refine L.r 2 O<|tkL<|yL (d5 O O)<|L.r 1 O<|yNF O kR wq<|svL 0 [.bool (decide (a1≠0))] sz4 O O O<|nsr<|L.r 2 O<|cjc<|bi1 h fun l5 el5 h=>bL (row:=TLog.rowA kD) (sub:=TLog.subA kD) (e:=108) (g:=kB) (gh:=kU) (vs':=[]) (m':=[]) [0,1] el5 O fun q6=>az (D:=Cls w F [ty kD kB q6 l5]) hI<|rT fun w1 hw=>?_
 cases h
 exact⟨_,_,O,⟨_,O,O⟩,hw⟩
theorem W88{a0 A57 kD kS w r F}(h:M88 a0 A57=some r)(hc0:Cls w F [tx kD kS A57] w):qz Tryz.prog 88 [VP kD a0] F w fun u m=>∃Q57,u=.int .i64 r.2∧m=[jX kD Q57 r.1 []]:=by
 rw[M88]at h
 refine body (n:=21) Tryz.func88 O O O hc0<|sr<|L.r 1 O<|cjf<|L.r 1 O<|bi2 h fun l1 x2 e3 h=>dP [tx kD kS A57] [] O (fun w' hw=>qnZ e3 hw.lend) ?_
 rintro _ _ ⟨q4,rfl,rfl⟩
 refine aj (D:=Cls w F [tx kD q4 l1]) hI<|L.r 1 O<|nsr<|L.r 1 O<|neL h (fun c5 h=>?_) fun c5 h=>?_
 ·cases h
  exact cjb<|L.r 2 O<|cjh<|rT fun w1 hw=>⟨_,_,O,⟨_,O,O⟩,hw⟩
 refine cjl<|bi1 h fun th6 xT h=>bC (D:=Cls w F<|taa kD a0 q4 th6 l1) (aoI 0 O xT)<|av (k:=9) (stC [[8]] [Cls w F (taa kD a0 q4 th6 l1)]<|Cls w F<|taq kD a0 q4 th6 l1) O mixed (fun _ hw=>hw.drew) sn<|aA [] (ax zF<|sI [0,2,3,4]) fun hz8=>(vR [0] O<|vN 1 [] O hz8 O xT<|vQ 2 [] hz8 O (aa vC O)<|vQ 3 [] hz8 O (am (i:=0) wv O O O)<|vR [4] O<|vN 5 [] O hz8 O xT<|vQ 6 [] hz8 O (aa qcP O)<|vQ 7 [] hz8 O (am (i:=0) wv O O O)<|vE 8 O<|dt (i:=1) (g:=SR) (l:=th6.safe_) (s:=th6.seen_) O Tryz.underlying48 eL9 O O O (aG 2 O) (qi _) fun _=>(ae<|xV (stC [] []<|Cls w F<|taq kD a0 q4 th6 l1) 8 (aw O sD) (aP<|sI [0,2,3,4])<|vD<|ab<|sr<|L.r 1 O<|yNF O xT qcO<|svL 0 [tO] qne O O O<|nsr<|L.r 1 O<|cjc<|E.nilSl 91 2<|bi1 h fun l9 el9 h=>bL (row:=TDisk.rowA) (sub:=TDisk.subA) (e:=57) (g:=kD) (gh:=q4) (vs':=[(tc q4 a0),(td q4 a0),(tO)]) (m':=[taU q4 a0 th6]) [1,2,3,0,5,4] el9 O fun q10=>az (D:=Cls w F [tx kD q10 l9,taU q4 a0 th6]) hI<|rT fun w1 hw=>?_))
 cases h
 exact⟨_,_,O,⟨_,O,O⟩,hw.s [0]⟩
theorem W46{a0 A57 kQ kD kB kS kU w r F}(h:M46 a0 A57 kQ=some r)(hc0:Cls w F (taT kD kS A57 kB kU kQ) w):qz Tryz.prog 46 [VP kB a0] F w fun u m=>∃Q57 Q108,u=.int .i64 r.2.2∧m=[jX kD Q57 r.1 [],jV kD kB Q108 r.2.1 []]:=by
 rw[M46]at h
 refine body (n:=47) Tryz.func46 O O O hc0<|sr<|L.r 1 O<|cjf<|L.r 1 O<|bi1 h fun th1 kR h=>aj (D:=tbE w F kB a0 kD th1 kU kQ kS A57) (aoI 1 O kR)<|yNP O kR jd 0 ag3 O O<|iL h (bU O O) (fun c2 h=>?_) fun c2 h=>?_
 ·cases h
  exact cjb<|L.r 1 O<|cjh<|az (D:=tcd w F kD kB kU kQ kS A57) (asI [0,1,2] kR O)<|rT fun w1 hw=>⟨_,_,O,⟨_,_,O,O⟩,hw.s [1,0]⟩
 refine cjl<|aE<|av (k:=16) (stC [[14]] [tbE w F kB a0 kD th1 kU kQ kS A57]<|Cls w F []) O mixed (fun _ hw=>hw.drew) sn<|aA [] (ax zF<|sI []) fun hz29=>(vR [0] O<|vN 1 [] O hz29 O kR<|vQ 2 [] hz29 O (aa kf O)<|aA [14] (be hI) fun hz30=>(vQ 3 [14] hz30 O (am (i:=0) qj7 O O O)<|vR [4] O<|vN 5 [] O hz29 O kR<|vQ 6 [] hz29 O (aa y8 O)<|vQ 7 [14] hz30 O (am (i:=0) ag3 O O O)<|vR [8] O<|vN 9 [] O hz29 O kR<|vQ 10 [] hz29 O (aa jd O)<|vQ 11 [14] hz30 O (am (i:=0) ag3 O O O)<|vM 12 [] (fun x31=>.int .i64 x31) hz29 O h (bh O O) fun x31 ex31 h=>(vE 13 O<|bi1 h fun s32 e33 h=>yL (ye O fun w' hw=>W81 e33)<|ltV (stC [[14]] [tbE w F kB a0 kD th1 kU kQ kS A57]<|Cls w F []) 13 (sT sD) sn<|vE 14 O<|aj (D:=tcd w F kD kB kU kQ kS A57) (asI [0,1,2] kR O)<|aj (D:=Cls w F<|taT kD kS A57 kB kU kQ) (sI [1,0])<|bi2 h fun l34 x35 e36 h=>dP [tx kD kS A57] [ty kD kB kU kQ] O (fun w' hw=>W86 e36 hw.lend) ?_)))
 rintro _ _ ⟨q37,rfl,rfl⟩
 refine aj (D:=Cls w F<|taT kD q37 l34 kB kU kQ) hI<|ltV (stC [] []<|Cls w F []) 14 (aw O sD) (aP<|sI [])<|vR [15] O<|vD<|ab<|sr<|L.r 1 O<|neL h (fun c39 h=>?_) fun c39 h=>?_
 ·refine cjb<|L.r 2 O<|aj (D:=tcd w F kD kB kU kQ q37 l34) (sI [1,0])<|bi2 h fun l40 x41 e42 h=>aV (A:=[ty kD kB kU kQ]) (M:=[tx kD q37 l34]) O qin O (fun w' hw=>W87 e42 hw.lend) ?_
  rintro _ _ ⟨q43,rfl,rfl⟩
  cases h
  exact aj (D:=tcd w F kD kB q43 l40 q37 l34) hI<|L.r 1 O<|cjh<|rT fun w1 hw=>⟨_,_,O,⟨_,_,O,O⟩,hw.s [1,0]⟩
 refine cjl<|sr<|L.r 1 O<|bi1 h fun th44 eth44 h=>aj (D:=tbE w F kB a0 kD th44 kU kQ q37 l34) (aoI 1 O eth44)<|yNP O eth44 kf 0 qj7 O O<|aj (D:=tcd w F kD kB kU kQ q37 l34) (asI [0,1,2] eth44 O)<|aj (D:=Cls w F<|taT kD q37 l34 kB kU kQ) (sI [1,0])<|bi2 h fun l45 x46 e47 h=>dP [tx kD q37 l34] [ty kD kB kU kQ] O (fun w' hw=>W88 e47 hw.lend) ?_
 rintro _ _ ⟨q48,rfl,rfl⟩
 refine aj (D:=Cls w F<|taT kD q48 l45 kB kU kQ) hI<|L.r 1 O<|nsr<|L.r 1 O<|neL h (fun c49 h=>?_) fun c49 h=>?_
 ·refine cjb<|L.r 2 O<|aj (D:=tcd w F kD kB kU kQ q48 l45) (sI [1,0])<|bi2 h fun l50 x51 e52 h=>aV (A:=[ty kD kB kU kQ]) (M:=[tx kD q48 l45]) O qin O (fun w' hw=>W87 e52 hw.lend) ?_
  rintro _ _ ⟨q53,rfl,rfl⟩
  cases h
  exact aj (D:=tcd w F kD kB q53 l50 q48 l45) hI<|L.r 1 O<|cjh<|rT fun w1 hw=>⟨_,_,O,⟨_,_,O,O⟩,hw.s [1,0]⟩
 refine cji<|L.r 1 O<|bi1 h fun th54 eth54 h=>aj (D:=tbE w F kB a0 kD th54 kU kQ q48 l45) (aoI 1 O eth54)<|yNP O eth54 jd 0 ag3 O O<|mA h fun x55 ex55 h=>(yNF O eth54 jd<|svL 0 (tH x55) sz3 O O O<|nsr<|L.r 1 O<|ae<|ab<|bK<|bi1 h fun l56 el56 h=>bL (row:=TLog.rowA kD) (sub:=TLog.subA kD) (e:=108) (g:=kB) (gh:=kU) (vs':=[]) (m':=[tx kD q48 l45]) [0,1,2] el56 O fun q57=>az (D:=tcd w F kD kB q57 l56 q48 l45) hI<|rT fun w1 hw=>?_)
 cases h
 exact⟨_,_,O,⟨_,_,O,O⟩,hw.s [1,0]⟩
theorem W20{a0 a1 a2 A57 kQ kD kB kS kU w r F}(h:M20 a0 a1 a2 A57 kQ=some r)(hc0:Cls w F (taT kD kS A57 kB kU kQ) w):qz Tryz.prog 20 (VP kD a0::tcH a1 a2) F w fun u m=>∃G108 Q57 Q108 v1,Gr kB kQ.length G108 r.2.1.length∧u=.tuple #[VP G108 r.2.2.1,v1,.int .i64 r.2.2.2.2]∧m=[jX kD Q57 r.1 [],jV kD G108 Q108 r.2.1 [],.sl v1 9 1 (r.2.2.2.1.map SR)]:=by
 rw[M20]at h
 obtain⟨g108,hg108⟩:∃g,g=kB:=⟨_,rfl⟩
 have yY:Gr g108 kQ.length kB kQ.length:=hg108▸Gr.refl _ _
 refine body (n:=122) Tryz.func20 O O O hc0<|sr<|L.r 3 O<|cjf<|bd 6 (fun gs D=>∃gb1,gs=[(0,VP kD a0),(1,.int .i64 a1),(2,.int .i64 a2),(22,.bool gb1)]∧D=Cls w F (taT kD kS A57 kB kU kQ)∧qdm A57 kQ a0 a1 a2 gb1=some r) ?_ ?_
 ·refine L.r 1 O<|ltL h (fun c85 h=>?_) fun c85 h=>?_
  ·exact L.r 4 O<|ae<|ay ⟨true,O,O,h⟩ hI
  refine L.r 2 O<|tkL<|ltL h (fun c86 h=>?_) fun c86 h=>?_
  ·exact L.r 1 O<|ae<|ay ⟨true,O,O,h⟩ hI
  exact L.r 1 O<|ae<|ay ⟨false,O,O,h⟩ hI
 rintro _ _ ⟨gb1,rfl,rfl,h⟩
 rw[qdm]at h
 rcases gb1 with _|_
 ·replace h:=qU h
  refine L.r 3 O<|tkL<|bi1 h fun x1 e2 h=>dP [tx kD kS A57] [ty kD kB kU kQ] O (fun w' hw=>W19 e2 hw.lend) ?_
  rintro _ _ ⟨rfl,rfl⟩
  refine aj (D:=Cls w F<|taT kD kS A57 kB kU kQ) hI<|tkL<|gtL h (fun c3 h=>?_) fun c3 h=>?_
  ·cases h
   exact L.r 9 O<|cjb<|L.r 3 O<|cjh<|rT3 fun w1 hw=>⟨_,_,O,⟨_,_,_,_,(hg108▸yY),O,O⟩,(hw.nilSl 9 1).sel [1,2,0] (by decide) O⟩
  refine L.r 4 O<|tkL<|bi1 h fun x4 e5 h=>dP [tx kD kS A57] [ty kD kB kU kQ] O (fun w' hw=>W19 e5 hw.lend) ?_
  rintro _ _ ⟨rfl,rfl⟩
  refine aj (D:=Cls w F<|taT kD kS A57 kB kU kQ) hI<|L.r 1 O<|tkL<|mI h (bj O O) fun x6 ex6 h=>(tkL<|gtL h (fun c7 h=>?_) fun c7 h=>?_)
  ·cases h
   exact L.r 1 O<|cjb<|L.r 3 O<|cjh<|rT3 fun w1 hw=>⟨_,_,O,⟨_,_,_,_,(hg108▸yY),O,O⟩,(hw.nilSl 9 1).sel [1,2,0] (by decide) O⟩
  refine L.r 1 O<|cji<|L.r 3 O<|yL (dm (cells:=#[VP kD a0,.int .i64 a1,.int .i64 a2,.int .i64 0,.int .i64 1,.int .i64 0,.bool false]) O fun w hw=>by rcases qeO kD a0 with h0|⟨_,h0⟩<;>simp only[h0]<;>kernel_rfl)<|bV O O fun b8=>L.r 1 O<|nsr<|L.r 2 O<|aj (D:=Cls w F [tx kD kS A57,tcz b8 kD a0 a1 a2,ty kD kB kU kQ]) (sI [1,0,2])<|bi2 h fun s9 x10 e11 h=>aV (A:=[tx kD kS A57]) (M:=[tcz b8 kD a0 a1 a2,ty kD kB kU kQ]) O qj3 O (fun w' hw=>W16 e11 hw.lend) ?_
  rintro _ _ ⟨rfl,rfl⟩
  refine aj (D:=Cls w F [tx kD kS A57,tcz b8 kD a0 a1 a2,ty kD kB kU kQ]) hI<|L.r 5 O<|cjf<|L.r 1 O<|neL h (fun c12 h=>?_) fun c12 h=>?_
  ·cases h
   exact cjb<|L.r 4 O<|cjh<|rT3 fun w1 hw=>⟨_,_,O,⟨_,_,_,_,(hg108▸yY),O,O⟩,(hw.nilSl 9 1).sel [1,3,0] (by decide) O⟩
  refine cjl<|sr<|L.r 2 O<|bi2 h fun x13 x14 e15 h=>yL (ye O fun w' hw=>W44 e15)<|L.r 4 O<|yF jd O<|svL 1 (tH x13) sz3 O O O<|L.r 1 O<|nsr<|L.r 1 O<|neL h (fun c16 h=>?_) fun c16 h=>?_
  ·cases h
   exact cjb<|L.r 4 O<|cjh<|rT3 fun w1 hw=>⟨_,_,O,⟨_,_,_,_,(hg108▸yY),O,O⟩,(hw.nilSl 9 1).sel [1,3,0] (by decide) O⟩
  refine cji<|L.r 1 O<|ln<|ar (fun gs D=>∃gx2 gv3 gl4 kB gl6 gq7,∃gu8:Unit,gs=[(9,VP kB gx2),(12,gv3)]∧D=Cls w F (tcK kD kS A57 kB gq7 gl6 gv3 gl4)∧Gr g108 kQ.length kB gl6.length∧qea A57 gx2 gl4 gl6=some r) ?_ ?_
  ·refine sr<|L.r 1 O<|cjp<|W.arNew (rowg:=fun g=>TLog.rowA kD) (subg:=fun g=>TLog.subA kD) (e:=108) (g:=kB) (gh:=kU) (l:=kQ) (hs:=[]) (b:=b8) (u1:=(⟨a0,a1,a2,x13,1,0,false⟩:TLog)) (vs':=[]) (m':=[tx kD kS A57]) [1,2,0] h (by decide) O (fun _ h=>nomatch h) (fun _ _ _ _ _=>⟨O,O⟩) fun kB q25 x26 l27 h hg28 hv29 hi30=>?_
   rw[hv29]
   replace yY:=yY.trans hg28
   refine bC (D:=tcd w F kD kB q25 l27 kS A57) hI<|W.nilSl 9 1<|au (fun m gs D=>∃gv9 kO jN kY yB,∃gu14:Unit,gs=[(9,VP kB x26),(12,gv9),(13,taB jN)]∧D=Cls w F [ty kD kB yB kY,tx kD kS A57,tl gv9 kO]∧Gr g108 kQ.length kB kY.length∧qdl x26 A57 m kO jN kY=some r) ⟨tO,[],0,l27,q25,(),O,O,yY,h⟩ ⟨O,O,O,trivial⟩ (sI [1,2,0]) ?_
   rintro m _ _ ⟨gv9,kO,jN,kY,yB,gu14,rfl,rfl,yY,h⟩
   rcases m with _|m
   ·rw[qdl]at h;cases h
   rw[qdl]at h
   generalize hg1:qdl x26 A57 m=go1 at h
   rw[qia]at h
   refine aE<|W.block<|ar (fun gs D=>∃jH yI zQ xC xX,gs=[(9,VP kB x26),(12,gv9),(13,taB jN),(14,pt jH 0),(15,.bool xX)]∧D=Cls w F [ty kD kB yB kY,tx kD kS A57,tl gv9 kO,tcb jH yI zQ xC]∧qgr kY x26 jN A57 kO go1 yI zQ xC xX=some r) ?_ ?_
   ·obtain⟨xB,eth46,h⟩:=qq h
    refine bC (D:=Cls w F<|tbK kB x26 kD xB yB kY kS A57 gv9 kO) (aoI 0 O eth46)<|av (k:=16) (stC [[9,14],[14]] [Cls w F (tbK kB x26 kD xB yB kY kS A57 gv9 kO),Cls w F [tx kD kS A57,tl gv9 kO]]<|Cls w F [tx kD kS A57,tl gv9 kO]) O mixed (fun _ hw=>hw.drew) sn<|aA [] (ax (ax zF hI)<|sI [2,3]) fun hz64=>(vR [0,1] O<|vN 2 [] O hz64 O eth46<|vQ 3 [] hz64 O (aa ke O)<|aA [9,14] (be hI) fun hz66=>(vQ 4 [9,14] hz66 O (am (i:=0) ag3 O O O)<|vR [5] O<|vN 6 [] O hz64 O eth46<|vQ 7 [] hz64 O (aa vm O)<|vQ 8 [9,14] hz66 O (am (i:=0) ag3 O O O)<|cE (i1:=9) (i2:=13) (by kernel_rfl) O O ?_ ?_))
    ·refine aj (D:=Cls w F [ty kD kB yB kY,tx kD kS A57,tl gv9 kO]) (asI [0,1,2,3] eth46 O)<|aj (D:=Cls w F<|tcK kD kS A57 kB yB kY gv9 kO) (sI [1,0,2])<|bi2 h fun x68 b69 e70 h=>dP (taT kD kS A57 kB yB kY) [tl gv9 kO] O (fun w' hw=>W45 e70 hw.lend) ?_
     rintro _ _ ⟨rfl,rfl⟩
     refine aj (D:=Cls w F<|tcK kD kS A57 kB yB kY gv9 kO) hI<|ltV (stC [[14]] [Cls w F [tx kD kS A57,tl gv9 kO]]<|Cls w F [tx kD kS A57,tl gv9 kO]) 9 (aw O<|sT sD) (sN<|sI [0,2])<|aA [] (ax zF hI) fun hz71=>(vR [10,11] O<|dN (i:=12) h (cI [] (by kernel_rfl) O hz71) O O O (Y.extract O O) (fun c72 h=>?_) fun c72 h=>?_)
     ·exact vE 13 O<|L.alloc O qit fun b73=>ltV (stC [[14]] [Cls w F [tbM b73,tx kD kS A57,tl gv9 kO]]<|Cls w F [tx kD kS A57,tl gv9 kO]) 13 (Sc.stay (sI [1,2]) sD) (sN<|sI [0,1,3])<|vE 14 O<|svL 0 (tcx x68) z8 O O O<|ltV (stC [] []<|Cls w F [tx kD kS A57,tl gv9 kO]) 14 (aw O sD) (aP<|sI [1,3])<|vR [15] O<|vD<|ay ⟨b73,x68.epoch_,x68.text_,x68.size_,true,O,O,h⟩<|sI [2,1,3,0]
     exact vE 13 O<|L.alloc O qit fun b75=>ltV (stC [[14]] [Cls w F [tbM b75,tx kD kS A57,tl gv9 kO]]<|Cls w F [tx kD kS A57,tl gv9 kO]) 13 (Sc.stay (sI [1,2]) sD) (sN<|sI [0,1,3])<|vE 14 O<|svL 0 (tcx x68) z8 O O O<|ltV (stC [] []<|Cls w F [tx kD kS A57,tl gv9 kO]) 14 (aw O sD) (aP<|sI [1,3])<|vR [15] O<|vD<|ay ⟨b75,x68.epoch_,x68.text_,x68.size_,false,O,O,h⟩<|sI [2,1,3,0]
    refine L.alloc O qit fun b77=>ltV (stC [[9,14],[14]] [Cls w F (.obj b77 tN 112::tbK kB x26 kD xB yB kY kS A57 gv9 kO),Cls w F [tbM b77,tx kD kS A57,tl gv9 kO]]<|Cls w F [tx kD kS A57,tl gv9 kO]) 13 (Sc.stay (sI [1,2,3,4])<|Sc.stay (sI [1,2]) sD) sn<|vE 9 O<|aj (D:=Cls w F [ty kD kB yB kY,tbM b77,tx kD kS A57,tl gv9 kO]) (asI [1,2,0,3,4] eth46 O)<|aj (D:=Cls w F [tx kD kS A57,ty kD kB yB kY,tbM b77,tl gv9 kO]) (sI [2,0,1,3])<|bi2 h fun x78 b79 e80 h=>dP (taT kD kS A57 kB yB kY) [tbM b77,tl gv9 kO] O (fun w' hw=>W45 e80 hw.lend) ?_
    rintro _ _ ⟨rfl,rfl⟩
    refine aj (D:=Cls w F [tx kD kS A57,ty kD kB yB kY,tbM b77,tl gv9 kO]) hI<|ltV (stC [[14]] [Cls w F [tx kD kS A57,tbM b77,tl gv9 kO]]<|Cls w F [tx kD kS A57,tl gv9 kO]) 9 (aw O<|Sc.stay (sI [1,0,2]) sD) (sN<|sI [0,2,3])<|aA [] (ax zF<|sI [0,2]) fun hz81=>(vR [10,11] O<|dN (i:=12) h (cI [] (by kernel_rfl) O hz81) O O O (Y.extract O O) (fun c82 h=>?_) fun c82 h=>?_)
    ·exact vE 14 O<|svL 2 (tcx x78) z8 O O O<|ltV (stC [] []<|Cls w F [tx kD kS A57,tl gv9 kO]) 14 (aw O sD) (aP<|sI [0,3])<|vR [15] O<|vD<|ay ⟨b77,x78.epoch_,x78.text_,x78.size_,true,O,O,h⟩<|sI [1,0,3,2]
    exact vE 14 O<|svL 2 (tcx x78) z8 O O O<|ltV (stC [] []<|Cls w F [tx kD kS A57,tl gv9 kO]) 14 (aw O sD) (aP<|sI [0,3])<|vR [15] O<|vD<|ay ⟨b77,x78.epoch_,x78.text_,x78.size_,false,O,O,h⟩<|sI [1,0,3,2]
   rintro _ _ ⟨jH,yI,zQ,xC,xX,rfl,rfl,h⟩
   rw[qgr]at h
   rcases xX with _|_
   ·replace h:=qU h
    exact aE<|aE<|bi1 h fun zK eth31 h=>bC (D:=Cls w F [tj kB x26 kD zK,jV kD kB yB kY (tf x26),tx kD kS A57,tl gv9 kO,tcb jH yI zQ xC]) (aoI 0 O eth31)<|aZ mixed (by kernel_rfl) (fun _ hw=>hw.drew) fun hC=>(U.r 1 O<|fQ O (bf O)<|U.r 15 O<|bo<|ab<|aX O<|cr<|bH<|cC O<|bH<|dA<|bJ<|az (D:=Cls w F [ty kD kB yB kY,tx kD kS A57,tl gv9 kO,tcb jH yI zQ xC]) (asI [0,1,2,3,4] eth31 O)<|ay ⟨x26,gv9,kO,kB,kY,yB,(),O,O,yY,h⟩<|sI [1,0,2])
   replace h:=qT h
   refine aE<|aE<|bi1 h fun th32 eth32 h=>bC (D:=Cls w F [tj kB x26 kD th32,jV kD kB yB kY (tf x26),tx kD kS A57,tl gv9 kO,tcb jH yI zQ xC]) (aoI 0 O eth32)<|aZ mixed (by kernel_rfl) (fun _ hw=>hw.drew) fun hC=>(U.r 1 O<|fQ O (bf O)<|U.r 1 O<|U.take O<|fQ O (aa qdV O)<|U.take O<|fQ O (am (i:=4) ag3 O O O)<|U.r 1 O<|U.take O<|da h O (dE O O) (fun c33 h=>?_) fun c33 h=>?_)
   ·exact U.r 10 O<|bo<|ab<|aX O<|cr<|bH<|cC O<|bH<|dA<|bJ<|az (D:=Cls w F [ty kD kB yB kY,tx kD kS A57,tl gv9 kO,tcb jH yI zQ xC]) (asI [0,1,2,3,4] eth32 O)<|ay ⟨x26,gv9,kO,kB,kY,yB,(),O,O,yY,h⟩<|sI [1,0,2]
   refine U.r 2 O<|U.take O<|fQ O (aa qdV O)<|U.take O<|fQ O (am (i:=4) ag3 O O O)<|U.r 1 O<|U.take O<|fQ O (aQ O eth32)<|U.take O<|fQ O (aa jd O)<|U.take O<|fQ O (am (i:=0) ag3 O O O)<|U.take O<|da h O (dx O O) (fun c34 h=>?_) fun c34 h=>?_
   ·exact U.r 1 O<|bo<|ab<|aX O<|cr<|bH<|cC O<|bH<|dA<|bJ<|az (D:=Cls w F [ty kD kB yB kY,tx kD kS A57,tl gv9 kO,tcb jH yI zQ xC]) (asI [0,1,2,3,4] eth32 O)<|ay ⟨x26,gv9,kO,kB,kY,yB,(),O,O,yY,h⟩<|sI [1,0,2]
   exact U.r 1 O<|bo<|ab<|a6 O<|aN<|ab<|sr<|yF qdV O<|yP 4 ag3 O O O<|L.r 1 O<|cjm<|av (k:=10) (stC [[9]] [Cls w F [tj kB x26 kD th32,jV kD kB yB kY (tf x26),tx kD kS A57,tl gv9 kO,tcb jH yI zQ xC]]<|Cls w F [jV kD kB yB kY (tf x26),tx kD kS A57,tl gv9 kO,tcb jH yI zQ xC]) O mixed (fun _ hw=>hw.drew) sn<|aA [] (ax zF<|sI [1,2,3,4]) fun hz37=>(vR [0] O<|vN 1 [] O hz37 O eth32<|vQ 2 [] hz37 O (aa ke O)<|aA [9] (be hI) fun hz38=>(vQ 3 [9] hz38 O (am (i:=0) ag3 O O O)<|vQ 4 [] hz37 O (aa qk5 O)<|vQ 5 [] hz37 O (am (i:=3) ag3 O O O)<|vM 6 [] (fun x39=>.int .i64 x39) hz37 O h (bh O O) fun x39 ex39 h=>(vN 7 [] O hz37 O eth32<|vQ 8 [] hz37 O (aa ke O)<|vE 9 O<|svL 0 (tH x39) sz3 O O O<|ltV (stC [] []<|Cls w F [jV kD kB yB kY (tf x26),tx kD kS A57,tl gv9 kO,tcb jH yI zQ xC]) 9 (aw O sD) (aP<|sI [1,2,3,4])<|vD<|ab<|ah<|L.r 1 O<|yF qk6 O<|yP 4 ag9 O O O<|aI O Tryz.underlying48 eL9 O O fun b40=>bc (i:=4) (g:=SR) (l:=kO) (more:=[zQ]) h O Tryz.underlying48 eL9 O O O (aG 0 O) (qi _) O fun v41 l42 el42 h=>L.r 1 O<|ae<|cjj<|L.r 1 O<|yNP O eth32 vm 2 ag3 O O<|mA h fun x43 ex43 h=>(yNF O eth32 vm<|svL 2 (tH x43) sz3 O O O<|ae<|bi1 h fun l44 el44 h=>bL (row:=TLog.rowA kD) (sub:=TLog.subA kD) (e:=108) (g:=kB) (gh:=yB) (vs':=[]) (m':=[tl v41 l42,tu b40 zQ,tx kD kS A57,tcb jH yI zQ xC]) [2,3,0,1,4,5] el44 O fun q45=>have yY:=yY.upd el44;az (D:=Cls w F [ty kD kB q45 l44,tl v41 l42,tu b40 zQ,tx kD kS A57,tcb jH yI zQ xC]) hI<|bi ⟨v41,l42,yI,l44,q45,(),O,O,yY,by rw[hg1];exact h⟩<|sI [0,3,1]))))
  rintro _ _ ⟨gx2,gv3,gl4,kB,gl6,gq7,gu8,rfl,rfl,yY,h⟩
  rw[qea]at h
  refine aE<|sr<|L.r 1 O<|bi3 h fun l17 l18 x19 e20 h=>dP (taT kD kS A57 kB gq7 gl6) [tl gv3 gl4] O (fun w' hw=>W46 e20 hw.lend) ?_
  rintro _ _ ⟨q21,q22,rfl,rfl⟩
  obtain⟨_,c23,h⟩:=qq h
  replace yY:=yY.len (qw c23)
  refine aj (D:=Cls w F<|tcK kD q21 l17 kB q22 l18 gv3 gl4) hI<|L.r 1 O<|nsr<|L.r 1 O<|neL h (fun c24 h=>?_) fun c24 h=>?_
  ·cases h
   exact cjb<|L.r 4 O<|cjh<|rT3 fun w1 hw=>⟨_,_,O,⟨_,_,_,_,(hg108▸yY),O,O⟩,(hw.nilSl 9 1).sel [1,2,0] (by decide) O⟩
  cases h
  exact cji<|L.r 5 O<|cjc<|rT3 fun w1 hw=>⟨_,_,O,⟨_,_,_,_,(hg108▸yY),O,O⟩,hw⟩
 replace h:=qT h
 cases h
 exact L.r 14 O<|cjb<|L.r 3 O<|cjh<|rT3 fun w1 hw=>⟨_,_,O,⟨_,_,_,_,(hg108▸yY),O,O⟩,(hw.nilSl 9 1).sel [1,2,0] (by decide) O⟩
theorem W89{a0 w r}(h:M89 a0=some r):Does Tryz.prog 89 [st a0] w fun u m=>u=.tuple #[st r.1,.int .i64 r.2.1,.int .i64 r.2.2]∧m=[]:=by
 rw[M89]at h
 refine body (n:=40) Tryz.func89 O O O (Cls.refl w)<|sr<|L.r 3 O<|nsr<|L.r 1 O<|bi3 h fun x1 x2 x3 e4 h=>yL (ye O fun w' hw=>W83 e4)<|L.r 7 O<|cjm<|W.block<|sr<|L.r 1 O<|neL h (fun c5 h=>?_) fun c5 h=>?_
 ·cases h
  exact L.r 1 O<|cjb<|L.r 4 O<|cjc<|ak<|aM<|rT3 d0
 refine L.r 1 O<|cjn<|L.r 1 O<|gtL h (fun c6 h=>?_) fun c6 h=>?_
 ·cases h
  exact L.r 1 O<|cjb<|L.r 3 O<|cjc<|ak<|aM<|rT3 d0
 refine L.r 1 O<|cjn<|L.r 1 O<|yL (aK Tryz.underlying9 O)<|L.r 1 O<|mI h (bj O O) fun x7 ex7 h=>(yL (a7 Tryz.underlying3 Tryz.underlying156 O)<|L.r 1 O<|ltL h (fun c8 h=>?_) fun c8 h=>?_)
 ·cases h
  exact L.r 1 O<|cjb<|L.r 3 O<|cjc<|ak<|aM<|rT3 d0
 refine L.r 1 O<|cja<|aq<|ab<|sr<|L.r 4 O<|yL (a7 Tryz.underlying156 Tryz.underlying3 O)<|mA h fun x9 ex9 h=>(mL (fun s10=>st s10) h (cQ Tryz.underlying9 O O O) fun s10 es10 h=>(L.r 2 O<|yL (a7 Tryz.underlying156 Tryz.underlying3 O)<|mA h fun x11 ex11 h=>(L.r 3 O<|cjc<|rT3 fun w1 hw=>?_)))
 cases h
 exact⟨_,_,O,⟨O,O⟩,hw⟩
theorem W48{a0 w r}(h:M48 a0=some r):Does Tryz.prog 48 [st a0] w fun u m=>u=.tuple #[.int .i64 r.1,st r.2.1,st r.2.2.1,.bool r.2.2.2]∧m=[]:=by
 rw[M48]at h
 refine body (n:=49) Tryz.func48 O O O (Cls.refl w)<|sr<|L.r 4 O<|nsr<|L.r 1 O<|bi3 h fun x1 x2 x3 e4 h=>yL (yf qmk O fun w' hw=>W47 e4)<|L.r 7 O<|cjf<|bd 6 (fun gs D=>∃gb1,gs=[(0,st a0),(6,.int .i64 x1),(7,.int .i64 x2),(22,.bool gb1)]∧D=Cls w [] []∧qda x1 a0 x2 gb1=some r) ?_ ?_
 ·refine L.r 1 O<|neL h (fun c15 h=>?_) fun c15 h=>?_
  ·exact L.r 4 O<|ae<|ay ⟨true,O,O,h⟩ hI
  refine L.r 2 O<|tkL<|ltL h (fun c16 h=>?_) fun c16 h=>?_
  ·exact L.r 1 O<|ae<|ay ⟨true,O,O,h⟩ hI
  exact L.r 1 O<|ae<|ay ⟨false,O,O,h⟩ hI
 rintro _ _ ⟨gb1,rfl,rfl,h⟩
 rw[qda]at h
 rcases gb1 with _|_
 ·replace h:=qU h
  refine L.r 2 O<|tkL<|iL h (bU O O) (fun c5 h=>?_) fun c5 h=>?_
  ·cases h
   exact L.r 1 O<|cjb<|L.r 4 O<|cjh<|cV O O O O O d0
  refine L.r 1 O<|cji<|L.r 2 O<|mL (fun s6=>st s6) h (aU Tryz.underlying9 O O) fun s6 es6 h=>bi3 h fun s7 x8 x9 e10 h=>yL (ye O fun w' hw=>W89 e10)<|L.r 7 O<|cjf<|L.r 1 O<|neL h (fun c11 h=>?_) fun c11 h=>?_
  ·cases h
   exact L.r 5 O<|cjb<|L.r 4 O<|cjh<|cV O O O O O d0
  refine L.r 2 O<|tkL<|yL (aK Tryz.underlying9 O)<|tkL<|gtL h (fun c12 h=>?_) fun c12 h=>?_
  ·cases h
   exact L.r 1 O<|cjb<|L.r 4 O<|cjh<|cV O O O O O d0
  refine L.r 1 O<|cjl<|aZ mixed (by kernel_rfl) (fun _ hw=>hw.drew) fun hC=>(U.r 5 O<|fR (V:=fun x13=>.int .i64 x13) h O (bh O O) fun x13 ex13 h=>(fR (V:=fun s14=>st s14) h O (aU Tryz.underlying9 O O) fun s14 es14 h=>(U.r 4 O<|bo<|ab<|bK<|cV O O O O O fun w1 hw=>?_)))
  cases h
  exact⟨_,_,O,⟨O,O⟩,hw⟩
 replace h:=qT h
 cases h
 exact L.r 4 O<|cjb<|L.r 4 O<|cjh<|cV O O O O O d0
end Go.Proofs.YtloiiohoelhldaaGreatDoor
