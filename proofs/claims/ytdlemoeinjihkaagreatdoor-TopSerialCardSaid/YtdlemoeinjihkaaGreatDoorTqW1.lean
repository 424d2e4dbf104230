import Derived.Test.YtdlemoeinjihkaaGreatDoorTqM
import Derived.Test.YtdlemoeinjihkaaGreatDoorChecked
import Derived.KernelRfl
import Derived.Test.YtdlemoeinjihkaaGreatDoorZf
import Derived.Test.YtdlemoeinjihkaaGreatDoorTqV
namespace Go.Proofs.YtdlemoeinjihkaaGreatDoor
open Go.S
set_option linter.unusedVariables false
set_option linter.unusedSimpArgs false
theorem mixed:Tryz.prog.follows .mixedOrders=true:=by kernel_rfl
theorem ag3:qM Tryz.prog 3 false=true:=by kernel_rfl
theorem ag4:qM Tryz.prog 4 false=true:=by kernel_rfl
theorem ag9:qM Tryz.prog 9 false=true:=by kernel_rfl
theorem ql3:qM Tryz.prog 24 false=true:=by kernel_rfl
theorem qo4:qM Tryz.prog 28 false=true:=by kernel_rfl
theorem qnC:qM Tryz.prog 29 false=true:=by kernel_rfl
theorem qo3:qM Tryz.prog 30 false=true:=by kernel_rfl
theorem qpK:qM Tryz.prog 35 true=true:=by kernel_rfl
theorem qo2:qM Tryz.prog 37 true=true:=by kernel_rfl
theorem qpJ:qM Tryz.prog 39 true=true:=by kernel_rfl
theorem qhX:qM Tryz.prog 46 false=true:=by kernel_rfl
theorem qj1:qM Tryz.prog 47 false=true:=by kernel_rfl
theorem qfn:qM Tryz.prog 49 true=true:=by kernel_rfl
theorem jy:qM Tryz.prog 52 false=true:=by kernel_rfl
theorem qm7:qM Tryz.prog 59 true=true:=by kernel_rfl
theorem qpI:qM Tryz.prog 63 false=true:=by kernel_rfl
theorem qnB:qM Tryz.prog 65 false=true:=by kernel_rfl
theorem qo1:qM Tryz.prog 66 true=true:=by kernel_rfl
theorem qj0:qM Tryz.prog 67 false=true:=by kernel_rfl
theorem qfm:qM Tryz.prog 70 false=true:=by kernel_rfl
theorem ql2:qM Tryz.prog 84 true=true:=by kernel_rfl
theorem qoy:qM Tryz.prog 88 false=true:=by kernel_rfl
theorem ql1:qM Tryz.prog 90 true=true:=by kernel_rfl
theorem qo0:qM Tryz.prog 92 true=true:=by kernel_rfl
theorem qm6:qM Tryz.prog 97 false=true:=by kernel_rfl
theorem qbf:qM Tryz.prog 102 true=true:=by kernel_rfl
theorem qm9:qM Tryz.prog 104 true=true:=by kernel_rfl
theorem kT:qM Tryz.prog 111 false=true:=by kernel_rfl
theorem qm8:qM Tryz.prog 112 false=true:=by kernel_rfl
theorem qoz:qM Tryz.prog 116 true=true:=by kernel_rfl
theorem zK:qM Tryz.prog 119 true=true:=by kernel_rfl
theorem wo:qM Tryz.prog 157 true=true:=by kernel_rfl
theorem qi0:qM Tryz.prog 242 true=true:=by kernel_rfl
theorem eL3:ze Tryz.prog 3 1 8=true:=by kernel_rfl
theorem eL5:ze Tryz.prog 5 1 1=true:=by kernel_rfl
theorem eL9:ze Tryz.prog 9 1 16=true:=by kernel_rfl
theorem qmV:ze Tryz.prog 37 3 24=true:=by kernel_rfl
theorem qlW:ze Tryz.prog 39 2 16=true:=by kernel_rfl
theorem qoX:ze Tryz.prog 52 1 24=true:=by kernel_rfl
theorem qhW:ze Tryz.prog 70 1 8=true:=by kernel_rfl
theorem qjV:ze Tryz.prog 84 2 24=true:=by kernel_rfl
theorem qoW:ze Tryz.prog 90 2 32=true:=by kernel_rfl
theorem qoV:ze Tryz.prog 92 2 16=true:=by kernel_rfl
theorem qcg:ze Tryz.prog 102 3 24=true:=by kernel_rfl
theorem qmX:ze Tryz.prog 104 2 16=true:=by kernel_rfl
theorem qmW:ze Tryz.prog 116 2 24=true:=by kernel_rfl
theorem qlk:jx Tryz.prog 19=true:=by kernel_rfl
theorem qpG:jx Tryz.prog 26=true:=by kernel_rfl
theorem qnx:jx Tryz.prog 27=true:=by kernel_rfl
theorem qnw:jx Tryz.prog 43=true:=by kernel_rfl
theorem qlj:jx Tryz.prog 60=true:=by kernel_rfl
theorem qgF:jx Tryz.prog 71=true:=by kernel_rfl
theorem qnv:jx Tryz.prog 72=true:=by kernel_rfl
theorem qnu:jx Tryz.prog 89=true:=by kernel_rfl
theorem qnt:jx Tryz.prog 92=true:=by kernel_rfl
theorem qpH:jx Tryz.prog 178=true:=by kernel_rfl
theorem vO:qj Tryz.prog 32 0 0=true:=by kernel_rfl
theorem qa8:qj Tryz.prog 32 1 1=true:=by kernel_rfl
theorem qjT:qj Tryz.prog 32 2 2=true:=by kernel_rfl
theorem qmS:qj Tryz.prog 35 0 0=true:=by kernel_rfl
theorem xP:qj Tryz.prog 35 1 1=true:=by kernel_rfl
theorem qgC:qj Tryz.prog 35 2 2=true:=by kernel_rfl
theorem zX:qj Tryz.prog 37 0 0=true:=by kernel_rfl
theorem wW:qj Tryz.prog 37 1 1=true:=by kernel_rfl
theorem wV:qj Tryz.prog 37 2 2=true:=by kernel_rfl
theorem qmR:qj Tryz.prog 39 0 0=true:=by kernel_rfl
theorem qgB:qj Tryz.prog 39 1 1=true:=by kernel_rfl
theorem xO:qj Tryz.prog 49 0 0=true:=by kernel_rfl
theorem kJ:qj Tryz.prog 49 1 1=true:=by kernel_rfl
theorem qgA:qj Tryz.prog 69 0 0=true:=by kernel_rfl
theorem qc3:qj Tryz.prog 69 1 2=true:=by kernel_rfl
theorem qjS:qj Tryz.prog 69 2 3=true:=by kernel_rfl
theorem qa7:qj Tryz.prog 69 3 4=true:=by kernel_rfl
theorem vN:qj Tryz.prog 69 4 5=true:=by kernel_rfl
theorem kI:qj Tryz.prog 69 5 6=true:=by kernel_rfl
theorem vM:qj Tryz.prog 69 6 26=true:=by kernel_rfl
theorem qa6:qj Tryz.prog 69 7 27=true:=by kernel_rfl
theorem qmQ:qj Tryz.prog 73 0 0=true:=by kernel_rfl
theorem qc2:qj Tryz.prog 73 1 1=true:=by kernel_rfl
theorem qc1:qj Tryz.prog 73 2 2=true:=by kernel_rfl
theorem wU:qj Tryz.prog 73 3 3=true:=by kernel_rfl
theorem xw:qj Tryz.prog 73 4 4=true:=by kernel_rfl
theorem qa5:qj Tryz.prog 73 5 5=true:=by kernel_rfl
theorem qgz:qj Tryz.prog 73 6 25=true:=by kernel_rfl
theorem qgy:qj Tryz.prog 73 7 26=true:=by kernel_rfl
theorem xN:qj Tryz.prog 84 0 0=true:=by kernel_rfl
theorem qjR:qj Tryz.prog 84 1 1=true:=by kernel_rfl
theorem xv:qj Tryz.prog 90 0 0=true:=by kernel_rfl
theorem qc0:qj Tryz.prog 90 1 1=true:=by kernel_rfl
theorem qcZ:qj Tryz.prog 92 0 0=true:=by kernel_rfl
theorem qa4:qj Tryz.prog 92 1 1=true:=by kernel_rfl
theorem qcc:qj Tryz.prog 102 0 0=true:=by kernel_rfl
theorem qcb:qj Tryz.prog 102 1 1=true:=by kernel_rfl
theorem qgD:qj Tryz.prog 102 2 2=true:=by kernel_rfl
theorem yK:qj Tryz.prog 104 0 0=true:=by kernel_rfl
theorem qca:qj Tryz.prog 104 1 1=true:=by kernel_rfl
theorem xr:qj Tryz.prog 114 0 0=true:=by kernel_rfl
theorem vS:qj Tryz.prog 114 1 1=true:=by kernel_rfl
theorem vR:qj Tryz.prog 114 2 2=true:=by kernel_rfl
theorem kA:qj Tryz.prog 114 3 3=true:=by kernel_rfl
theorem qlf:qj Tryz.prog 116 0 0=true:=by kernel_rfl
theorem qle:qj Tryz.prog 116 1 1=true:=by kernel_rfl
theorem vQ:qj Tryz.prog 119 0 0=true:=by kernel_rfl
theorem zP:qj Tryz.prog 119 1 1=true:=by kernel_rfl
theorem kz:qj Tryz.prog 119 2 2=true:=by kernel_rfl
theorem ky:qj Tryz.prog 152 0 0=true:=by kernel_rfl
theorem yJ:qj Tryz.prog 152 1 1=true:=by kernel_rfl
theorem qb9:qj Tryz.prog 152 2 2=true:=by kernel_rfl
theorem ju:qj Tryz.prog 152 3 3=true:=by kernel_rfl
theorem jt:qj Tryz.prog 152 4 4=true:=by kernel_rfl
theorem kx:qj Tryz.prog 152 5 5=true:=by kernel_rfl
theorem vP:qj Tryz.prog 152 6 6=true:=by kernel_rfl
theorem qb8:qj Tryz.prog 157 0 0=true:=by kernel_rfl
theorem qld:qj Tryz.prog 157 1 1=true:=by kernel_rfl
theorem qlc:qj Tryz.prog 157 2 2=true:=by kernel_rfl
theorem qoT:qob Tryz.prog 73=true:=by kernel_rfl
theorem sz3:szB Tryz.prog 3 1=true:=by kernel_rfl
theorem sz4:szB Tryz.prog 4 1=true:=by kernel_rfl
theorem sz9:szB Tryz.prog 9 1=true:=by kernel_rfl
theorem qn2:szB Tryz.prog 29 1=true:=by kernel_rfl
theorem qn1:szB Tryz.prog 30 1=true:=by kernel_rfl
theorem qps:szB Tryz.prog 32 3=true:=by kernel_rfl
theorem qn0:szB Tryz.prog 35 4=true:=by kernel_rfl
theorem qmm:szB Tryz.prog 37 3=true:=by kernel_rfl
theorem qml:szB Tryz.prog 39 2=true:=by kernel_rfl
theorem qpr:szB Tryz.prog 46 1=true:=by kernel_rfl
theorem wh:szB Tryz.prog 49 2=true:=by kernel_rfl
theorem vA:szB Tryz.prog 52 1=true:=by kernel_rfl
theorem qmk:szB Tryz.prog 59 20=true:=by kernel_rfl
theorem qmj:szB Tryz.prog 63 1=true:=by kernel_rfl
theorem qfi:szB Tryz.prog 65 1=true:=by kernel_rfl
theorem qoS:szB Tryz.prog 66 20=true:=by kernel_rfl
theorem qno:szB Tryz.prog 67 1=true:=by kernel_rfl
theorem qau:szB Tryz.prog 70 1=true:=by kernel_rfl
theorem wL:szB Tryz.prog 84 2=true:=by kernel_rfl
theorem qpq:szB Tryz.prog 88 1=true:=by kernel_rfl
theorem qcB:szB Tryz.prog 90 2=true:=by kernel_rfl
theorem qlU:szB Tryz.prog 92 2=true:=by kernel_rfl
theorem qnZ:szB Tryz.prog 97 1=true:=by kernel_rfl
theorem xx:szB Tryz.prog 102 3=true:=by kernel_rfl
theorem qev:szB Tryz.prog 104 2=true:=by kernel_rfl
theorem qmn:szB Tryz.prog 111 1=true:=by kernel_rfl
theorem qkz:szB Tryz.prog 112 1=true:=by kernel_rfl
theorem qky:szB Tryz.prog 116 2=true:=by kernel_rfl
theorem qA:szB Tryz.prog 119 22=true:=by kernel_rfl
theorem zI:szB Tryz.prog 157 3=true:=by kernel_rfl
theorem qeu:szB Tryz.prog 242 256=true:=by kernel_rfl
theorem ze3:zh Tryz.prog 3=some [.int .i64 0]:=by kernel_rfl
theorem qpl:zh Tryz.prog 32=some [tQm,tQm,.map none]:=by kernel_rfl
theorem qpk:zh Tryz.prog 33=some (List.replicate 12 (.bool false)):=by kernel_rfl
theorem qpj:zh Tryz.prog 35=some [.int .i64 0,.int .i64 0,.int .i64 0,.string ⟨#[]⟩]:=by kernel_rfl
theorem qoO:zh Tryz.prog 37=some [.int .i64 0,.int .i64 0,.int .i64 0]:=by kernel_rfl
theorem qpi:zh Tryz.prog 39=some [.bool false,.int .i64 0]:=by kernel_rfl
theorem qnK:zh Tryz.prog 49=some [tQm,tQm]:=by kernel_rfl
theorem qoN:zh Tryz.prog 52=some [tQm]:=by kernel_rfl
theorem qoM:zh Tryz.prog 59=some (List.replicate 20 (.string ⟨#[]⟩)):=by kernel_rfl
theorem qoL:zh Tryz.prog 70=some [.pointer none]:=by kernel_rfl
theorem qnJ:zh Tryz.prog 84=some [.int .i64 0,.string ⟨#[]⟩]:=by kernel_rfl
theorem qph:zh Tryz.prog 86=some (List.replicate 12 (tQm)):=by kernel_rfl
theorem qoK:zh Tryz.prog 90=some [.int .i64 0,tQm]:=by kernel_rfl
theorem qoJ:zh Tryz.prog 92=some [.int .i64 0,.int .i64 0]:=by kernel_rfl
theorem qpg:zh Tryz.prog 97=some [tQm]:=by kernel_rfl
theorem qmc:zh Tryz.prog 102=some [.int .i64 0,.int .i64 0,.int .i64 0]:=by kernel_rfl
theorem qmb:zh Tryz.prog 104=some [.int .i64 0,.int .i64 0]:=by kernel_rfl
theorem qnN:zh Tryz.prog 116=some [.int .i64 0,.string ⟨#[]⟩]:=by kernel_rfl
theorem qay:zh Tryz.prog 119=some tQaC:=by kernel_rfl
theorem qnM:zh Tryz.prog 120=some (.int .i64 0::.bool false::.string ⟨#[]⟩::.string ⟨#[]⟩::.string ⟨#[]⟩::.string ⟨#[]⟩::.string ⟨#[]⟩::.string ⟨#[]⟩::.string ⟨#[]⟩::.string ⟨#[]⟩::.string ⟨#[]⟩::.string ⟨#[]⟩::.string ⟨#[]⟩::.string ⟨#[]⟩::.string ⟨#[]⟩::.string ⟨#[]⟩::.string ⟨#[]⟩::.string ⟨#[]⟩::.string ⟨#[]⟩::.string ⟨#[]⟩::.string ⟨#[]⟩::.string ⟨#[]⟩::tQaC):=by kernel_rfl
theorem qhZ:zh Tryz.prog 157=some [.int .i64 0,.string ⟨#[]⟩,.int .i64 0]:=by kernel_rfl
theorem qnL:zh Tryz.prog 242=some (List.replicate 256 (.bool false)):=by kernel_rfl
theorem qaN (l:List Twrite):Plain (l.map Twrite.row):=by
 intro r hr u hu
 obtain ⟨x,_,rfl⟩:=List.mem_map.1 hr
 simp only [Twrite.row,List.mem_cons,List.not_mem_nil,or_false] at hu
 rcases hu with rfl | rfl <;> rfl
theorem qiu (l:List Trecord):Plain (l.map Trecord.row):=by
 intro r hr u hu
 obtain ⟨x,_,rfl⟩:=List.mem_map.1 hr
 simp only [Trecord.row,List.mem_cons,List.not_mem_nil,or_false] at hu
 rcases hu with rfl | rfl | rfl <;> rfl
theorem z1 (l:List TVersion):Plain (l.map TVersion.row):=by
 intro r hr u hu
 obtain ⟨x,_,rfl⟩:=List.mem_map.1 hr
 simp only [TVersion.row,List.mem_cons,List.not_mem_nil,or_false] at hu
 rcases hu with rfl | rfl <;> rfl
theorem qeA (l:List TGot):Plain (l.map TGot.row):=by
 intro r hr u hu
 obtain ⟨x,_,rfl⟩:=List.mem_map.1 hr
 simp only [TGot.row,List.mem_cons,List.not_mem_nil,or_false] at hu
 rcases hu with rfl | rfl <;> rfl
theorem vG (l:List TOp):Plain (l.map TOp.row):=by
 intro r hr u hu
 obtain ⟨x,_,rfl⟩:=List.mem_map.1 hr
 simp only [TOp.row,List.mem_cons,List.not_mem_nil,or_false] at hu
 rcases hu with rfl | rfl | rfl <;> rfl
theorem ki (l:List TDid):Plain (l.map TDid.row):=by
 intro r hr u hu
 obtain ⟨x,_,rfl⟩:=List.mem_map.1 hr
 simp only [TDid.row,List.mem_cons,List.not_mem_nil,or_false] at hu
 rcases hu with rfl | rfl <;> rfl
theorem xZ (l:List TDep):Plain (l.map TDep.row):=by
 intro r hr u hu
 obtain ⟨x,_,rfl⟩:=List.mem_map.1 hr
 simp only [TDep.row,List.mem_cons,List.not_mem_nil,or_false] at hu
 rcases hu with rfl | rfl | rfl <;> rfl
theorem qbU (l:List TE):Plain (l.map TE.row):=by
 intro r hr u hu
 obtain ⟨x,_,rfl⟩:=List.mem_map.1 hr
 simp only [TE.row,List.mem_cons,List.not_mem_nil,or_false] at hu
 rcases hu with rfl | rfl <;> rfl
theorem qkI (l:List TWish):Plain (l.map TWish.row):=by
 intro r hr u hu
 obtain ⟨x,_,rfl⟩:=List.mem_map.1 hr
 simp only [TWish.row,List.mem_cons,List.not_mem_nil,or_false] at hu
 rcases hu with rfl | rfl | rfl | rfl <;> rfl
theorem qf1:PlZ TTale.rowv TTale.sds:=by
 intro x v h u hu
 simp only [TTale.rowv,List.mem_cons,List.not_mem_nil,or_false] at hu
 rcases hu with rfl | rfl
 ·rfl
 exact h ⟨gv v 0,92,2,x.Reads.map TGot.row⟩ (by simp [TTale.sds])
theorem qmU:Tryz.prog.eqGuardType Tryz.prog.depth 102=false:=by kernel_rfl
theorem qip (x:TDep):shB Tryz.prog 5 102 x.row=true:=by kernel_rfl
theorem qjO (x y:TDep) (h:x.row=y.row):x=y:=by
 cases x;cases y
 simpa [TDep.row,qcD] using h
theorem qoo:Tryz.prog.eqGuardType Tryz.prog.depth 59=false:=by kernel_rfl
theorem qol:(Tryz.prog.info? 9).isSome=true:=by kernel_rfl
theorem qom (z:(List UInt8)):(SR z).length=Tryz.prog.cellsOf 9:=by kernel_rfl
theorem qn6 (z:(List UInt8)):shB Tryz.prog 4 9 (SR z)=true:=by kernel_rfl
theorem qmI (x y:(List UInt8)) (h:SR x=SR y):x=y:=by
 simpa [SR,qcD] using h
set_option maxRecDepth 100000 in
set_option maxHeartbeats 8000000 in
theorem W16 (a0:Int) (A114:(List TDisk)) (gP114:Nat→Nat) (qP114:Nat→List Value) (w:World) (r:((List TDisk)×Int×Int)) (h:M16 a0 A114=some r) (F:List Nat) (hc0:Cls w F [tQt gP114 qP114 A114] w):zu Tryz.prog 16 (jX a0) F w fun u m=>∃ G114 Q114,Gr gP114 A114.length G114 r.1.length∧u=.tuple #[VP G114 r.2.1,.int .i64 r.2.2]∧m=[qS G114 Q114 r.1 []]:=by
 rw [M16] at h
 obtain ⟨g114,hg114⟩:∃ g,g=gP114:=⟨_,rfl⟩
 have hGr114:Gr g114 A114.length gP114 A114.length:=hg114 ▸ Gr.refl _ _
 refine body (n:=37) Tryz.func16 rfl rfl rfl hc0 (sr (L.r 2 rfl (ln (W.seq (sr (L.r 1 rfl (L.ite h rfl (Y.lss rfl rfl) (fun c1 h=>?_) (fun c1 h=>?_))))))))
 ·refine L.r 4 rfl (ln (W.condT rfl (sr (L.r 2 rfl (ln (W.ret (E.thenR (E.ret2 rfl rfl rfl (fun w1 hw=>?_)))))))))
  cases h
  exact ⟨_,_,rfl,⟨_,_,(hg114 ▸ hGr114),rfl,rfl⟩,hw⟩
 refine L.r 2 rfl (L.take rfl (L.ite h rfl (Y.gtr rfl rfl) (fun c2 h=>?_) (fun c2 h=>?_)))
 ·refine L.r 1 rfl (ln (W.condT rfl (sr (L.r 2 rfl (ln (W.ret (E.thenR (E.ret2 rfl rfl rfl (fun w1 hw=>?_)))))))))
  cases h
  exact ⟨_,_,rfl,⟨_,_,(hg114 ▸ hGr114),rfl,rfl⟩,hw⟩
 refine L.r 1 rfl (ln (W.condF rfl (W.skip (E.thenN (sr (L.y rfl (Y.build (cells:=#[tQm,tQm,tQm,.int .i64 (-1)]) rfl (by kernel_rfl)) (L.box rfl rfl ?_)))))))
 intro b3
 refine L.r 1 rfl (ln (W.seqJ (fun gs D=>∃ gx1 gP114 gl3 gq4,∃ gu5:Unit,gs=[(4,VP gP114 gx1)]∧D=Cls w F [tQt gP114 gq4 gl3]∧Gr g114 A114.length gP114 gl3.length∧qlD gx1 gl3=some r) ?_ ?_))
 ·refine sr (L.r 2 rfl (ln (W.block (W.nilSl 9 1 (W.nilSl 9 1 (W.nilSl 116 2 (W.arNew (rowg:=fun g=>TDisk.rowA) (subg:=fun g=>TDisk.subA) (e:=114) (g:=gP114) (gh:=qP114) (l:=A114) (hs:=[]) (b:=b3) (u1:=(⟨[],[],[],(-1)⟩:TDisk)) (vs':=([(tQm),(tQm),(tQm)])) (m':=[]) [3,2,1,0,4] h (by decide) rfl (fun _ h=>nomatch h) (fun _ _ _ _ _=>⟨rfl,rfl⟩) ?_)))))))
  intro gP114 q10 x11 l12 h hg13 hv14 hi15
  rw [hv14]
  replace hGr114:=hGr114.trans hg13
  refine W.to (D:=Cls w F [tQt gP114 q10 l12]) hI (W.loopJ (fun m gs D=>∃ gx6 gl7 gq8,∃ gu9:Unit,gs=[(4,VP gP114 x11),(13,.int .i64 a0),(14,.int .i64 gx6)]∧D=Cls w F [tQt gP114 gq8 gl7]∧Gr g114 A114.length gP114 gl7.length∧qe3 a0 x11 m gx6 gl7=some r) ⟨0,l12,q10,(),rfl,rfl,hGr114,h⟩ ⟨rfl,rfl,rfl,trivial⟩ hI ?_)
  rintro m _ _ ⟨gx6,gl7,gq8,gu9,rfl,rfl,hGr114,h⟩
  rcases m with _ | m
  ·rw [qe3] at h;cases h
  rw [qe3] at h
  generalize hg1:qe3 a0 x11 m=go1 at h
  rw [qkc] at h
  refine sr (L.ite h rfl (Y.lss rfl rfl) (fun c16 h=>?_) (fun c16 h=>?_))
  ·refine ln (W.seq (W.condT rfl (W.skip (E.thenN (W.seq (W.block ?_))))))
   obtain ⟨th17,eth17,h⟩:=qc h
   refine W.to (D:=Cls w F (tQR gP114 x11 gq8 th17 gl7)) (fun _ hw=>hw.aO 0 rfl eth17) (W.drawn2 (k:=11) (stC [[7,10],[10]] [Cls w F (tQR gP114 x11 gq8 th17 gl7),Cls w F (qlR gP114 x11 gq8 th17 gl7)] (Cls w F [qcA gq8 x11 th17,tQx gq8 x11 th17,tQN gP114 gq8 gl7 x11])) rfl mixed (fun _ hw=>hw.drew) (Sc.now (by kernel_rfl) hI) (V2.zz [] (Zc.on' (Zc.on' (Zc.fin hI) (sI [1,2,3])) (sI [2,3,4])) (fun hz31=>(V2.r [0,1] (by kernel_rfl) rfl (V2.apNil (i:=2) (Nx2.of [] (by kernel_rfl) rfl hz31) rfl rfl rfl eth17 (V2.q 3 [] hz31 rfl rfl (Y.fieldP xr rfl) (V2.zz [10] (Zc.on' (Zc.at1 hI) (sI [0,2,3,4])) (fun hz32=>(V2.q 4 [10] hz32 rfl rfl (Y.loadP (i:=0) kT rfl rfl rfl) (V2.eff (i:=5) (by kernel_rfl) rfl ?_))))))))))
   obtain ⟨s33,e34,h⟩:=qc h
   refine L.y rfl (Y.does (by kernel_rfl) rfl (fun w' hw=>(qbC ([0]) 64 w' _ e34).mono (fun _ _ h=>h.1))) (L.nil (E.toV2 (stC [[7,10],[10]] [Cls w F (tQR gP114 x11 gq8 th17 gl7),Cls w F (qlR gP114 x11 gq8 th17 gl7)] (Cls w F [qcA gq8 x11 th17,tQx gq8 x11 th17,tQN gP114 gq8 gl7 x11])) 5 (by kernel_rfl) (Sc.stay hI (Sc.stay hI (Sc.stayD hI))) (Sc.now (by kernel_rfl) hI) (V2.eff (i:=6) (by kernel_rfl) rfl (L.litOne rfl Tryz.underlying111 eL9 rfl rfl ?_))))
   intro b35
   refine L.nil (E.toV2 (stC [[7,10],[10]] [Cls w F (qhS b35 s33::tQR gP114 x11 gq8 th17 gl7),Cls w F (qhS b35 s33::qlR gP114 x11 gq8 th17 gl7)] (Cls w F [qhS b35 s33,qcA gq8 x11 th17,tQx gq8 x11 th17,tQN gP114 gq8 gl7 x11])) 6 (by kernel_rfl) (Sc.stay (sI [1,2,3,4,5]) (Sc.stay (sI [1,2,3,4]) (Sc.stayD (sI [1,2,3])))) (Sc.now (by kernel_rfl) hI) (V2.eff (i:=7) (by kernel_rfl) rfl (L.appM (i:=2) (g:=SR) (l:=th17.safe_) (more:=[s33]) h rfl Tryz.underlying111 eL9 rfl rfl rfl (fun w hw=>As.at_ (hw.get (i:=0) rfl)) (qp _) rfl ?_)))
   intro v36 l37 el37 h
   refine L.nil (E.toV2 (stC [[10]] [Cls w F (tQD v36 l37::qhS b35 s33::qlR gP114 x11 gq8 th17 gl7)] (Cls w F [tQD v36 l37,qhS b35 s33,qcA gq8 x11 th17,tQx gq8 x11 th17,tQN gP114 gq8 gl7 x11])) 7 (by kernel_rfl) (Sc.past rfl (Sc.stay (sI [1,2,3,4,5]) (Sc.stayD (sI [1,2,3,4])))) (Sc.now (by kernel_rfl) hI) (V2.zz [] (Zc.on' (Zc.fin hI) (sI [0,1,3,4,5])) (fun hz38=>(V2.apNil (i:=8) (Nx2.of [] (by kernel_rfl) rfl hz38) rfl rfl rfl eth17 (V2.q 9 [] hz38 rfl rfl (Y.fieldP xr rfl) (V2.eff (i:=10) (by kernel_rfl) rfl (L.storeV (i:=2) qmn rfl rfl (fun _ hw=>(As.at_ (hw.get (i:=0) rfl)).one) rfl nb (L.nil (E.toV2 (stC [] [] (Cls w F [tQD v36 l37,qhS b35 s33,qcA gq8 x11 th17,tQx gq8 x11 th17,tQN gP114 gq8 gl7 x11])) 10 (by kernel_rfl) (Sc.past rfl (Sc.stayD hI)) (Sc.atD (sI [0,1,3,4,5])) (V2.done (by kernel_rfl) (E.blockN (E.thenN (W.region (L.m (V:=fun x39=>.int .i64 x39) h rfl (Y.addM rfl rfl) (fun x39 ex39 h=>?_)))))))))))))))
   refine L.r 1 rfl (L.nil ?_)
   obtain ⟨l40,el40,h⟩:=qc h
   refine E.aC (row:=TDisk.rowA) (sub:=TDisk.subA) (e:=114) (g:=gP114) (gh:=gq8) (vs':=[v36,(tQh gq8 x11),(gv (gq8 x11.toNat) 2)]) (m':=[qhS b35 s33]) [2,0,3,4,5,1] el40 rfl ?_
   intro q41
   replace hGr114:=hGr114.upd el40
   exact E.to (D:=Cls w F [tQt gP114 q41 l40,qhS b35 s33]) hI (E.aJ ⟨x39,l40,q41,(),rfl,rfl,hGr114,by rw [hg1];exact h⟩ (sI [0]))
  exact ln (W.seq (W.condF rfl (W.exit (E.thenX (E.KLX (E.blockX (E.jJ ⟨x11,gP114,gl7,gq8,(),rfl,rfl,hGr114,h⟩ hI)))))))
 rintro _ _ ⟨gx1,gP114,gl3,gq4,gu5,rfl,rfl,hGr114,h⟩
 rw [qlD] at h
 refine sr (L.r 1 rfl (L.lit0 rfl Tryz.underlying111 eL9 ?_))
 intro b4
 refine L.r 1 rfl ?_
 obtain ⟨th5,eth5,h⟩:=qc h
 refine L.to (D:=Cls w F [qij gP114 gx1 gq4 th5,.sl (tQi gq4 gx1) 9 1 (th5.safe_.map SR),qcA gq4 gx1 th5,tQx gq4 gx1 th5,tQN gP114 gq4 gl3 gx1,.sl (sv b4 0) 9 1 ([].map SR)]) (fun _ hw=>hw.aO 1 rfl eth5) (L.y rfl (Y.apNil rfl eth5) (L.y rfl (Y.fieldP xr rfl) (L.y rfl (Y.loadP (i:=0) kT rfl rfl rfl) (L.appM (i:=5) (g:=SR) (l:=[]) (more:=th5.safe_) h rfl Tryz.underlying111 eL9 rfl rfl rfl (fun w hw=>As.at_ (hw.get (i:=1) rfl)) (qp _) rfl ?_))))
 intro v6 l7 el7 h
 refine L.y rfl (Y.apNil rfl eth5) (L.y rfl (Y.fieldP vS rfl) (L.storeV (i:=1) qmn rfl rfl (fun _ hw=>(As.at_ (hw.get (i:=0) rfl)).one) rfl nb (nsr (L.r 3 rfl (ln (W.ret ?_))))))
 obtain ⟨l8,el8,h⟩:=qc h
 refine E.aC (row:=TDisk.rowA) (sub:=TDisk.subA) (e:=114) (g:=gP114) (gh:=gq4) (vs':=[(tQi gq4 gx1),v6,(gv (gq4 gx1.toNat) 2)]) (m':=[qcA gq4 gx1 th5]) [1,2,0,4,5,3] el8 rfl ?_
 intro q9
 replace hGr114:=hGr114.upd el8
 refine E.to (D:=Cls w F [tQt gP114 q9 l8,qcA gq4 gx1 th5]) hI (E.ret2 rfl rfl rfl (fun w1 hw=>?_))
 cases h
 exact ⟨_,_,rfl,⟨_,_,(hg114 ▸ hGr114),rfl,rfl⟩,hw.s [0]⟩
set_option maxRecDepth 100000 in
set_option maxHeartbeats 8000000 in
theorem W35 (a0:Int) (A114:(List TDisk)) (gP114:Nat→Nat) (qP114:Nat→List Value) (w:World) (r:Int) (h:M35 a0 A114=some r) (F:List Nat) (hc0:Cls w F [tQt gP114 qP114 A114] w):zu Tryz.prog 35 [VP gP114 a0] F w fun u m=>u=.int .i64 r∧m=[tQt gP114 qP114 A114]:=by
 rw [M35] at h
 refine body (n:=8) Tryz.func35 rfl rfl rfl hc0 (sr (L.r 1 rfl (nsr (L.r 1 rfl ?_))))
 obtain ⟨th1,eth1,h⟩:=qc h
 refine L.to (D:=Cls w F (tQR gP114 a0 qP114 th1 A114)) (fun _ hw=>hw.aO 0 rfl eth1) (L.y rfl (Y.apNil rfl eth1) (L.y rfl (Y.fieldP xr rfl) (L.y rfl (Y.loadP (i:=0) kT rfl rfl rfl) (L.y rfl (Y.lenM (g:=SR) (l:=th1.safe_) Tryz.underlying111 rfl (fun w hw=>As.at_ (hw.get (i:=1) rfl))) (L.r 1 rfl (ln (W.ret (E.to (D:=Cls w F [tQt gP114 qP114 A114]) (fun _ hw=>hw.aS [0,1,2,3,4] eth1 rfl) (E.ret1 rfl rfl (fun w1 hw=>?_))))))))))
 cases h
 exact ⟨_,_,rfl,⟨rfl,rfl⟩,hw⟩
set_option maxRecDepth 100000 in
set_option maxHeartbeats 8000000 in
theorem W67 (a0:Int) (a1:Int) (A114:(List TDisk)) (gP114:Nat→Nat) (qP114:Nat→List Value) (w:World) (r:((List UInt8)×Int)) (h:M67 a0 a1 A114=some r) (F:List Nat) (hc0:Cls w F [tQt gP114 qP114 A114] w):zu Tryz.prog 67 [VP gP114 a0,.int .i64 a1] F w fun u m=>u=.tuple #[st r.1,.int .i64 r.2]∧m=[tQt gP114 qP114 A114]:=by
 rw [M67] at h
 refine body (n:=29) Tryz.func67 rfl rfl rfl hc0 (sr (L.r 2 rfl (ln (W.seq (sr (L.r 1 rfl (L.ite h rfl (Y.lss rfl rfl) (fun c1 h=>?_) (fun c1 h=>?_))))))))
 ·refine L.r 9 rfl (ln (W.condT rfl (sr (L.r 2 rfl (ln (W.ret (E.thenR (E.ret2 rfl rfl rfl (fun w1 hw=>?_)))))))))
  cases h
  exact ⟨_,_,rfl,⟨rfl,rfl⟩,hw⟩
 refine L.r 3 rfl (L.take rfl ?_)
 obtain ⟨th2,eth2,h⟩:=qc h
 refine L.to (D:=Cls w F (tQR gP114 a0 qP114 th2 A114)) (fun _ hw=>hw.aO 0 rfl eth2) (L.y rfl (Y.apNil rfl eth2) (L.take rfl (L.y rfl (Y.fieldP xr rfl) (L.take rfl (L.y rfl (Y.loadP (i:=0) kT rfl rfl rfl) (L.take rfl (L.y rfl (Y.lenM (g:=SR) (l:=th2.safe_) Tryz.underlying111 rfl (fun w hw=>As.at_ (hw.get (i:=1) rfl))) (L.take rfl (L.ite h rfl (Y.geq rfl rfl) (fun c3 h=>?_) (fun c3 h=>?_))))))))))
 ·refine L.r 1 rfl (ln (W.condT rfl (sr (L.r 2 rfl (ln (W.ret (E.thenR (E.to (D:=Cls w F [tQt gP114 qP114 A114]) (fun _ hw=>hw.aS [0,1,2,3,4] eth2 rfl) (E.ret2 rfl rfl rfl (fun w1 hw=>?_))))))))))
  cases h
  exact ⟨_,_,rfl,⟨rfl,rfl⟩,hw⟩
 refine L.r 1 rfl (ln (W.condF rfl (W.skip (E.thenN (W.seq (sr (L.r 1 rfl (L.y rfl (Y.apNil rfl eth2) (L.y rfl (Y.fieldP kA rfl) (L.y rfl (Y.loadP (i:=0) ag3 rfl rfl rfl) (L.ite h rfl (Y.eql rfl rfl) (fun c4 h=>?_) (fun c4 h=>?_))))))))))))
 ·refine ln (W.condT rfl (sr (L.r 2 rfl (ln (W.ret (E.thenR (E.to (D:=Cls w F [tQt gP114 qP114 A114]) (fun _ hw=>hw.aS [0,1,2,3,4] eth2 rfl) (E.ret2 rfl rfl rfl (fun w1 hw=>?_)))))))))
  cases h
  exact ⟨_,_,rfl,⟨rfl,rfl⟩,hw⟩
 refine ln (W.condF rfl (W.skip (E.thenN (sr (L.r 1 rfl (L.y rfl (Y.apNil rfl eth2) (L.y rfl (Y.fieldP vS rfl) (L.y rfl (Y.loadP (i:=0) kT rfl rfl rfl) (L.r 1 rfl (L.m (V:=fun _=>el (tQh qP114 a0) (zG a1)) h rfl (Y.indexM (g:=SR) (l:=th2.seen_) Tryz.underlying111 sz9 rfl rfl (fun w hw=>As.at_ (hw.get (i:=2) rfl))) (fun x5 ex5 h=>(L.y rfl (Y.loadE1 (u:=st x5) ag9 rfl (fun w hw=>As.at_ (hw.get (i:=2) rfl)) (qf ex5)) ?_))))))))))))
 refine L.r 2 rfl (ln (W.ret (E.to (D:=Cls w F [tQt gP114 qP114 A114]) (fun _ hw=>hw.aS [0,1,2,3,4] eth2 rfl) (E.ret2 rfl rfl rfl (fun w1 hw=>?_)))))
 cases h
 exact ⟨_,_,rfl,⟨rfl,rfl⟩,hw⟩
set_option maxRecDepth 100000 in
set_option maxHeartbeats 8000000 in
theorem qpM (a0:(List UInt8)) (a1:Int) (w:World) (r:(List UInt8)) (h:qoD a0 a1=some r):Does Tryz.prog 150 [st a0,.int .u8 a1] w fun u m=>u=st r∧m=[]:=by
 rw [qoD] at h
 refine body (n:=23) Tryz.func150 rfl rfl rfl (Cls.refl w) (sr (L.r 1 rfl (ln (W.seqJ (fun gs D=>∃ gs1,gs=[(0,st gs1)]∧D=Cls w [] []∧qdX gs1=some r) ?_ ?_))))
 ·refine W.block (W.loopJ (fun m gs D=>∃ gs2,gs=[(0,st gs2),(1,.int .u8 a1)]∧D=Cls w [] []∧ye a1 m gs2=some r) ⟨a0,rfl,rfl,h⟩ ⟨rfl,rfl,trivial⟩ hI ?_)
  rintro m _ _ ⟨gs2,rfl,rfl,h⟩
  rcases m with _ | m
  ·rw [ye] at h;cases h
  rw [ye] at h
  generalize hg1:ye a1 m=go1 at h
  rw [qhG] at h
  refine W.seq (sr (L.r 1 rfl (L.y rfl (Y.lenS Tryz.underlying9 rfl) (L.ite h rfl (Y.gtr rfl rfl) (fun c1 h=>?_) (fun c1 h=>?_)))))
  ·refine L.r 3 rfl (L.take rfl (L.y rfl (Y.lenS Tryz.underlying9 rfl) (L.take rfl (L.m (V:=fun x2=>.int .i64 x2) h rfl (Y.subM rfl rfl) (fun x2 ex2 h=>(L.take rfl (L.m (V:=fun x3=>.int .u8 x3) h rfl (Y.indexSM Tryz.underlying9 rfl rfl) (fun x3 ex3 h=>(L.r 1 rfl (L.take rfl (L.ite h rfl (Y.eql rfl rfl) (fun c4 h=>?_) (fun c4 h=>?_))))))))))))
   ·exact L.r 1 rfl (ln (W.condT rfl (W.skip (E.thenN (W.block (W.region (L.r 2 rfl (L.y rfl (Y.lenS Tryz.underlying9 rfl) (L.m (V:=fun x5=>.int .i64 x5) h rfl (Y.subM rfl rfl) (fun x5 ex5 h=>(L.m (V:=fun s6=>st s6) h rfl (Y.sliceSH Tryz.underlying9 rfl rfl) (fun s6 es6 h=>(L.r 1 rfl (L.nil (E.blockN (E.aJ ⟨s6,rfl,rfl,by rw [hg1];exact h⟩ hI))))))))))))))))
   exact L.r 1 rfl (ln (W.condF rfl (W.exit (E.thenX (E.KLX (E.blockX (E.jJ ⟨gs2,rfl,rfl,h⟩ hI)))))))
  exact L.r 9 rfl (ln (W.condF rfl (W.exit (E.thenX (E.KLX (E.blockX (E.jJ ⟨gs2,rfl,rfl,h⟩ hI)))))))
 rintro _ _ ⟨gs1,rfl,rfl,h⟩
 rw [qdX] at h
 refine sr (L.r 2 rfl (ln (W.ret (E.ret1 rfl rfl (fun w1 hw=>?_)))))
 cases h
 exact ⟨_,_,rfl,⟨rfl,rfl⟩,hw⟩
set_option maxRecDepth 100000 in
set_option maxHeartbeats 8000000 in
theorem qpN (a0:(List UInt8)) (a1:Int) (w:World) (r:(List UInt8)) (h:qoE a0 a1=some r):Does Tryz.prog 149 [st a0,.int .u8 a1] w fun u m=>u=st r∧m=[]:=by
 rw [qoE] at h
 refine body (n:=17) Tryz.func149 rfl rfl rfl (Cls.refl w) (sr (L.r 1 rfl (ln (W.seqJ (fun gs D=>∃ gs1,gs=[(0,st gs1)]∧D=Cls w [] []∧qdY gs1=some r) ?_ ?_))))
 ·refine W.block (W.loopJ (fun m gs D=>∃ gs2,gs=[(0,st gs2),(1,.int .u8 a1)]∧D=Cls w [] []∧yf a1 m gs2=some r) ⟨a0,rfl,rfl,h⟩ ⟨rfl,rfl,trivial⟩ hI ?_)
  rintro m _ _ ⟨gs2,rfl,rfl,h⟩
  rcases m with _ | m
  ·rw [yf] at h;cases h
  rw [yf] at h
  generalize hg1:yf a1 m=go1 at h
  rw [qhH] at h
  refine W.seq (sr (L.r 1 rfl (L.y rfl (Y.lenS Tryz.underlying9 rfl) (L.ite h rfl (Y.gtr rfl rfl) (fun c1 h=>?_) (fun c1 h=>?_)))))
  ·refine L.r 2 rfl (L.take rfl (L.m (V:=fun x2=>.int .u8 x2) h rfl (Y.indexSM Tryz.underlying9 rfl rfl) (fun x2 ex2 h=>(L.r 1 rfl (L.take rfl (L.ite h rfl (Y.eql rfl rfl) (fun c3 h=>?_) (fun c3 h=>?_)))))))
   ·exact L.r 1 rfl (ln (W.condT rfl (W.skip (E.thenN (W.block (W.region (L.r 1 rfl (L.m (V:=fun s4=>st s4) h rfl (Y.sliceSL Tryz.underlying9 rfl rfl) (fun s4 es4 h=>(L.r 1 rfl (L.nil (E.blockN (E.aJ ⟨s4,rfl,rfl,by rw [hg1];exact h⟩ hI)))))))))))))
   exact L.r 1 rfl (ln (W.condF rfl (W.exit (E.thenX (E.KLX (E.blockX (E.jJ ⟨gs2,rfl,rfl,h⟩ hI)))))))
  exact L.r 6 rfl (ln (W.condF rfl (W.exit (E.thenX (E.KLX (E.blockX (E.jJ ⟨gs2,rfl,rfl,h⟩ hI)))))))
 rintro _ _ ⟨gs1,rfl,rfl,h⟩
 rw [qdY] at h
 refine sr (L.r 2 rfl (ln (W.ret (E.ret1 rfl rfl (fun w1 hw=>?_)))))
 cases h
 exact ⟨_,_,rfl,⟨rfl,rfl⟩,hw⟩
set_option maxRecDepth 100000 in
set_option maxHeartbeats 8000000 in
theorem qp8 (a0:(List UInt8)) (w:World) (r:((List Bool)×Bool)) (h:qpd a0=some r):Does Tryz.prog 151 [st a0] w fun u m=>u=.tuple #[.agg (r.1.map B).flatten.toArray,.bool r.2]∧m=[]:=by
 rw [qpd] at h
 refine body (n:=21) Tryz.func151 rfl rfl rfl (Cls.refl w) (sr (L.alloc rfl qnL ?_))
 intro b1
 refine L.to (D:=Cls w [] [.obj b1 (((List.replicate 256 (false:Bool)).map B).flatten) 242]) (fun _ hw=>by first | exact hw | simpa [I,B,SR] using hw) (L.r 1 rfl (ln (W.seqJ (fun gs D=>∃ gl1,gs=[(2,pt b1 0)]∧D=Cls w [] [.obj b1 ((gl1.map B).flatten) 242]∧qhF gl1=some r) ?_ ?_)))
 ·refine sr (L.r 1 rfl (ln (W.block (W.loopJ (fun m gs D=>∃ gx2 gl3,gs=[(0,st a0),(2,pt b1 0),(4,.int .i64 gx2)]∧D=Cls w [] [.obj b1 ((gl3.map B).flatten) 242]∧yd a0 m gx2 gl3=some r) ⟨0,(List.replicate 256 (false:Bool)),rfl,rfl,h⟩ ⟨rfl,rfl,rfl,trivial⟩ hI ?_))))
  rintro m _ _ ⟨gx2,gl3,rfl,rfl,h⟩
  rcases m with _ | m
  ·rw [yd] at h;cases h
  rw [yd] at h
  generalize hg1:yd a0 m=go1 at h
  rw [qhE] at h
  refine W.seq (sr (L.r 2 rfl (L.y rfl (Y.lenS Tryz.underlying9 rfl) (L.ite h rfl (Y.lss rfl rfl) (fun c6 h=>?_) (fun c6 h=>?_)))))
  ·refine ln (W.condT rfl (W.skip (E.thenN (W.seq (W.block (sr (L.r 2 rfl (L.m (V:=fun x7=>.int .u8 x7) h rfl (Y.indexSM Tryz.underlying9 rfl rfl) (fun x7 ex7 h=>(L.r 1 rfl (ln ?_)))))))))))
   refine W.seq (sr (L.r 1 rfl (L.ite h rfl (Y.geq rfl rfl) (fun c8 h=>?_) (fun c8 h=>?_))))
   ·refine ln (W.condT rfl (sr ?_))
    obtain ⟨_,en9,h⟩:=qc h
    obtain ⟨_,en9⟩:=qd en9
    refine L.y rfl (Y.loadArAll (q:=0) (row:=B) (k:=1) qi0 qeu rfl rfl (fun _=>rfl) (by rw [en9])) ?_
    obtain ⟨_,en10,h⟩:=qc h
    obtain ⟨_,en10⟩:=qd en10
    obtain ⟨_,en11,h⟩:=qc h
    obtain ⟨_,en11⟩:=qd en11
    refine L.storeArW (i:=0) (row:=B) (k:=1) en10 en11 rfl (fun _=>rfl) (vF _) qeu rfl rfl rfl (L.r 1 rfl (ln (W.ret (E.thenR (E.blockR (E.thenR (E.KLR (E.blockR (E.KSR ?_)))))))))
    obtain ⟨_,en12,h⟩:=qc h
    obtain ⟨_,en12⟩:=qd en12
    refine E.retR2 rfl (Rv.cellAr (i:=0) (row:=B) (k:=1) qi0 qeu rfl rfl (fun _=>rfl) (by rw [en12])) (Rv.tmp rfl) (fun w1 hw=>?_)
    cases h
    exact ⟨_,_,rfl,⟨rfl,rfl⟩,hw.s []⟩
   refine ln (W.condF rfl (W.skip (E.thenN (W.region (L.r 1 rfl (L.m (V:=fun _=>pt b1 (0+x7.toNat*1)) h rfl (Y.indexAM (l:=gl3) Tryz.underlying242 sz4 rfl rfl) (fun x13 ex13 h=>(L.storeArM (q:=0) (row:=B) (vs:=[.bool true]) (j:=0) (u1:=true) h sz4 rfl rfl rfl rfl rfl (qT rfl za) rfl (fun _=>rfl) (qg ex13) rfl rfl ?_))))))))
   intro l14 el14 h
   exact L.nil (E.blockN (E.thenN (W.region (L.r 1 rfl (L.m (V:=fun x15=>.int .i64 x15) h rfl (Y.addM rfl rfl) (fun x15 ex15 h=>(L.r 1 rfl (L.nil (E.aJ ⟨x15,l14,rfl,rfl,by rw [hg1];exact h⟩ hI)))))))))
  exact ln (W.condF rfl (W.exit (E.thenX (E.KLX (E.blockX (E.jJ ⟨gl3,rfl,rfl,h⟩ hI))))))
 rintro _ _ ⟨gl1,rfl,rfl,h⟩
 rw [qhF] at h
 refine sr ?_
 obtain ⟨_,en2,h⟩:=qc h
 obtain ⟨_,en2⟩:=qd en2
 refine L.y rfl (Y.loadArAll (q:=0) (row:=B) (k:=1) qi0 qeu rfl rfl (fun _=>rfl) (by rw [en2])) ?_
 obtain ⟨_,en3,h⟩:=qc h
 obtain ⟨_,en3⟩:=qd en3
 obtain ⟨_,en4,h⟩:=qc h
 obtain ⟨_,en4⟩:=qd en4
 refine L.storeArW (i:=0) (row:=B) (k:=1) en3 en4 rfl (fun _=>rfl) (vF _) qeu rfl rfl rfl (L.r 1 rfl (ln (W.ret ?_)))
 obtain ⟨_,en5,h⟩:=qc h
 obtain ⟨_,en5⟩:=qd en5
 refine E.retR2 rfl (Rv.cellAr (i:=0) (row:=B) (k:=1) qi0 qeu rfl rfl (fun _=>rfl) (by rw [en5])) (Rv.tmp rfl) (fun w1 hw=>?_)
 cases h
 exact ⟨_,_,rfl,⟨rfl,rfl⟩,hw.s []⟩
set_option maxRecDepth 100000 in
set_option maxHeartbeats 8000000 in
theorem qp6 (a0:Int) (w:World) (r:Bool) (h:qpb a0=some r):Does Tryz.prog 178 [.int .u8 a0] w fun u m=>u=.bool r∧m=[]:=by
 rw [qpb] at h
 refine body (n:=6) Tryz.func178 rfl rfl rfl (Cls.refl w) (sr (L.r 1 rfl (nsr (L.r 1 rfl (L.y rfl (Y.and rfl rfl) (L.y rfl (Y.neq rfl rfl) (L.r 1 rfl (ln ?_))))))))
 refine W.ret (E.ret1 rfl rfl (fun w1 hw=>?_))
 cases h
 exact ⟨_,_,rfl,⟨rfl,rfl⟩,hw⟩
set_option maxRecDepth 100000 in
set_option maxHeartbeats 8000000 in
theorem qp5 (a0:Int) (w:World) (r:Bool) (h:qpa a0=some r):Does Tryz.prog 180 [.int .i32 a0] w fun u m=>u=.bool r∧m=[]:=by
 rw [qpa] at h
 refine body (n:=17) Tryz.func180 rfl rfl rfl (Cls.refl w) (sr (L.r 1 rfl (ln (W.seq (W.block (sr (L.cutJ 6 (fun gs D=>∃ gb1,gs=[(0,.int .i32 a0),(9,.bool gb1)]∧D=Cls w [] []∧qbp a0 gb1=some r) ?_ ?_)))))))
 ·refine L.r 1 rfl (L.ite h rfl (Y.leq rfl rfl) (fun c3 h=>?_) (fun c3 h=>?_))
  ·refine L.r 2 rfl (L.take rfl (L.ite h rfl (Y.lss rfl rfl) (fun c4 h=>?_) (fun c4 h=>?_)))
   ·exact L.r 1 rfl (L.nil (E.jJ ⟨true,rfl,rfl,h⟩ hI))
   exact L.r 1 rfl (L.nil (E.jJ ⟨false,rfl,rfl,h⟩ hI))
  exact L.r 4 rfl (L.nil (E.jJ ⟨false,rfl,rfl,h⟩ hI))
 rintro _ _ ⟨gb1,rfl,rfl,h⟩
 rw [qbp] at h
 rcases gb1 with _ | _
 ·replace h:=zn h
  refine L.r 1 rfl (ln (W.condF rfl (sr (L.cutJ 6 (fun gs D=>∃ gb2,gs=[(16,.bool gb2)]∧D=Cls w [] []∧qbo gb2=some r) ?_ ?_))))
  ·refine L.r 1 rfl (L.ite h rfl (Y.lss rfl rfl) (fun c1 h=>?_) (fun c1 h=>?_))
   ·refine L.r 2 rfl (L.take rfl (L.ite h rfl (Y.leq rfl rfl) (fun c2 h=>?_) (fun c2 h=>?_)))
    ·exact L.r 1 rfl (L.nil (E.jJ ⟨true,rfl,rfl,h⟩ hI))
    exact L.r 1 rfl (L.nil (E.jJ ⟨false,rfl,rfl,h⟩ hI))
   exact L.r 4 rfl (L.nil (E.jJ ⟨false,rfl,rfl,h⟩ hI))
  rintro _ _ ⟨gb2,rfl,rfl,h⟩
  rw [qbo] at h
  rcases gb2 with _ | _
  ·replace h:=zn h
   refine L.r 1 rfl (ln (W.condF rfl (W.skip (E.blockN (E.thenN (sr (L.r 1 rfl (ln (W.ret (E.ret1 rfl rfl (fun w1 hw=>?_)))))))))))
   cases h
   exact ⟨_,_,rfl,⟨rfl,rfl⟩,hw⟩
  replace h:=zm h
  refine L.r 1 rfl (ln (W.condT rfl (sr (L.r 1 rfl (ln (W.ret (E.blockR (E.thenR (E.ret1 rfl rfl (fun w1 hw=>?_))))))))))
  cases h
  exact ⟨_,_,rfl,⟨rfl,rfl⟩,hw⟩
 replace h:=zm h
 refine L.r 1 rfl (ln (W.condT rfl (sr (L.r 1 rfl (ln (W.ret (E.blockR (E.thenR (E.ret1 rfl rfl (fun w1 hw=>?_))))))))))
 cases h
 exact ⟨_,_,rfl,⟨rfl,rfl⟩,hw⟩
set_option maxRecDepth 100000 in
set_option maxHeartbeats 8000000 in
theorem qp4 (a0:Int) (w:World) (r:Int) (h:qo9 a0=some r):Does Tryz.prog 181 (jX a0) w fun u m=>u=.int .i64 r∧m=[]:=by
 rw [qo9] at h
 refine body (n:=6) Tryz.func181 rfl rfl rfl (Cls.refl w) (sr (L.r 1 rfl (nsr (L.r 1 rfl (L.m (V:=fun x1=>.int .i64 x1) h rfl (Y.addM rfl rfl) (fun x1 ex1 h=>(L.m (V:=fun x2=>.int .i64 x2) h rfl (Y.quoM rfl rfl) (fun x2 ex2 h=>(L.r 1 rfl (ln ?_))))))))))
 refine W.ret (E.ret1 rfl rfl (fun w1 hw=>?_))
 cases h
 exact ⟨_,_,rfl,⟨rfl,rfl⟩,hw⟩
set_option maxRecDepth 100000 in
set_option maxHeartbeats 8000000 in
theorem qpU (a0:(List UInt8)) (a1:(List UInt8)) (w:World) (r:(List UInt8)) (h:qoI a0 a1=some r):Does Tryz.prog 106 [st a0,st a1] w fun u m=>u=st r∧m=[]:=by
 rw [qoI] at h
 refine body (n:=43) Tryz.func106 rfl rfl rfl (Cls.refl w) (sr (L.r 1 rfl (ln (W.seq (sr (L.r 1 rfl (L.ite h rfl (Y.eqlS rfl rfl) (fun c1 h=>?_) (fun c1 h=>?_))))))))
 ·refine L.r 4 rfl (ln (W.condT rfl (sr (L.r 2 rfl (ln (W.ret (E.thenR (E.ret1 rfl rfl (fun w1 hw=>?_)))))))))
  cases h
  exact ⟨_,_,rfl,⟨rfl,rfl⟩,hw⟩
 refine L.r 2 rfl (L.take rfl (L.ite h rfl (Y.eqlS rfl rfl) (fun c2 h=>?_) (fun c2 h=>?_)))
 ·refine L.r 1 rfl (ln (W.condT rfl (sr (L.r 2 rfl (ln (W.ret (E.thenR (E.ret1 rfl rfl (fun w1 hw=>?_)))))))))
  cases h
  exact ⟨_,_,rfl,⟨rfl,rfl⟩,hw⟩
 refine L.r 1 rfl (ln (W.condF rfl (W.skip (E.thenN (W.seq (sr (L.r 1 rfl (L.y rfl (Y.lenS Tryz.underlying9 rfl) (L.ite h rfl (Y.eql rfl rfl) (fun c3 h=>?_) (fun c3 h=>?_))))))))))
 ·refine L.r 2 rfl (L.take rfl (L.m (V:=fun x4=>.int .u8 x4) h rfl (Y.indexSM Tryz.underlying9 rfl rfl) (fun x4 ex4 h=>(L.take rfl (L.ite h rfl (Y.lss rfl rfl) (fun c5 h=>?_) (fun c5 h=>?_))))))
  ·refine L.r 1 rfl (ln (W.condT rfl (W.seq (W.quietC mixed (by kernel_rfl) (fun _ hw=>hw.drew) (fun hC=>(U.r 2 rfl (U.m (V:=fun x6=>.int .u8 x6) h rfl (Y.indexSM Tryz.underlying9 rfl rfl) (fun x6 ex6 h=>?_))))))))
   obtain ⟨s7,e8,h⟩:=qc h
   refine U.y rfl (Y.does (by kernel_rfl) rfl (fun w' hw=>(qpM a0 x6 w' _ e8).mono (fun _ _ h=>h.1))) (U.r 1 rfl (U.m (V:=fun x9=>.int .u8 x9) h rfl (Y.indexSM Tryz.underlying9 rfl rfl) (fun x9 ex9 h=>?_)))
   obtain ⟨s10,e11,h⟩:=qc h
   refine U.y rfl (Y.does (by kernel_rfl) rfl (fun w' hw=>(qpN s7 x9 w' _ e11).mono (fun _ _ h=>h.1))) (U.r 1 rfl (U.nil (E.thenN (W.ret (E.thenR (E.ret1 rfl rfl (fun w1 hw=>?_)))))))
   cases h
   exact ⟨_,_,rfl,⟨rfl,rfl⟩,hw⟩
  refine L.r 1 rfl (ln (W.condF rfl (W.skip (E.thenN (W.seq (sr (L.r 1 rfl ?_)))))))
  cases h
 refine L.r 5 rfl (ln (W.condF rfl (W.skip (E.thenN (W.seq (sr (L.r 1 rfl ?_)))))))
 cases h
set_option maxRecDepth 100000 in
set_option maxHeartbeats 8000000 in
theorem qoC (a0:(List UInt8)) (w:World) (r:(Int×Int×Int)) (h:qng a0=some r):Does Tryz.prog 109 [st a0] w fun u m=>u=.tuple #[.int .u64 r.1,.int .i64 r.2.1,.int .i64 r.2.2]∧m=[]:=by
 rw [qng] at h
 refine body (n:=42) Tryz.func109 rfl rfl rfl (Cls.refl w) (sr (L.r 3 rfl (nsr (L.r 1 rfl (ln (W.seqJ (fun gs D=>gs=[]∧D=Cls w [] []∧qhP=some r) ?_ ?_))))))
 ·refine sr (L.r 1 rfl (L.y rfl (Y.lenS Tryz.underlying9 rfl) (L.r 1 rfl (ln (W.block (W.loopJ (fun m gs D=>∃ gx1 gx2,gs=[(0,st a0),(5,.int .u64 gx1),(9,.int .i64 (a0.length:Int)),(10,.int .i64 gx2)]∧D=Cls w [] []∧yl a0 m gx1 gx2=some r) ⟨0,0,rfl,rfl,h⟩ ⟨rfl,rfl,rfl,rfl,trivial⟩ hI ?_))))))
  rintro m _ _ ⟨gx1,gx2,rfl,rfl,h⟩
  rcases m with _ | m
  ·rw [yl] at h;cases h
  rw [yl] at h
  generalize hg1:yl a0 m=go1 at h
  rw [qhO] at h
  refine sr (L.ite h rfl (Y.lss rfl rfl) (fun c1 h=>?_) (fun c1 h=>?_))
  ·refine ln (W.seq (W.condT rfl (W.skip (E.thenN (W.seq (W.block (sr (L.r 2 rfl (ln (W.seq ?_))))))))))
   refine W.region (L.r 2 rfl (L.m (V:=fun x2=>.int .u8 x2) h rfl (Y.indexSM Tryz.underlying9 rfl rfl) (fun x2 ex2 h=>(L.r 1 rfl (ln (W.seqJ (fun gs D=>gs=[(0,st a0),(5,.int .u64 gx1),(6,.int .i64 gx2),(7,.int .u8 x2),(9,.int .i64 (a0.length:Int)),(10,.int .i64 gx2)]∧D=Cls w [] []∧qeh gx2 x2 gx1 go1=some r) ?_ ?_))))))
   ·refine sr (L.r 1 rfl (L.ite h rfl (Y.eql rfl rfl) (fun c11 h=>?_) (fun c11 h=>?_)))
    ·refine L.r 2 rfl (L.take rfl (L.ite h rfl (Y.gtr rfl rfl) (fun c12 h=>?_) (fun c12 h=>?_)))
     ·refine L.r 1 rfl (ln (W.condT rfl (sr (L.r 3 rfl (ln (W.ret (E.KSR (E.blockR (E.thenR (E.KLR ?_))))))))))
      refine E.blockR (E.KSR (E.ret3 rfl rfl rfl rfl (fun w1 hw=>?_)))
      cases h
      exact ⟨_,_,rfl,⟨rfl,rfl⟩,hw⟩
     exact L.r 1 rfl (ln (W.condF rfl (W.skip (E.jJ ⟨rfl,rfl,h⟩ hI))))
    exact L.r 4 rfl (ln (W.condF rfl (W.skip (E.jJ ⟨rfl,rfl,h⟩ hI))))
   rintro _ _ ⟨rfl,rfl,h⟩
   rw [qeh] at h
   refine sr (L.r 2 rfl (L.y rfl (Y.and rfl rfl) (L.y rfl (Y.conv Tryz.underlying5 Tryz.underlying178 rfl) (L.r 1 rfl (L.m (V:=fun x3=>.int .i64 x3) h rfl (Y.mulM rfl rfl) (fun x3 ex3 h=>(L.m (V:=fun x4=>.int .u64 x4) h rfl (Y.shlM rfl rfl) (fun x4 ex4 h=>(L.y rfl (Y.or rfl rfl) (L.r 1 rfl (nsr ?_)))))))))))
   refine L.r 1 rfl (L.ite h rfl (Y.lss rfl rfl) (fun c5 h=>?_) (fun c5 h=>?_))
   ·refine ln (W.condT rfl (W.seq (sr (L.r 1 rfl (L.ite h rfl (Y.eql rfl rfl) (fun c6 h=>?_) (fun c6 h=>?_))))))
    ·refine L.r 2 rfl (L.take rfl (L.ite h rfl (Y.gtr rfl rfl) (fun c7 h=>?_) (fun c7 h=>?_)))
     ·refine L.r 1 rfl (ln (W.condT rfl (sr (L.r 3 rfl (ln (W.ret (E.thenR (E.blockR (E.thenR (E.KLR ?_))))))))))
      refine E.blockR (E.KSR (E.ret3 rfl rfl rfl rfl (fun w1 hw=>?_)))
      cases h
      exact ⟨_,_,rfl,⟨rfl,rfl⟩,hw⟩
     refine L.r 1 rfl (ln (W.condF rfl (W.skip (E.thenN (sr (L.r 2 rfl (L.m (V:=fun x8=>.int .i64 x8) h rfl (Y.addM rfl rfl) (fun x8 ex8 h=>(L.r 3 rfl (ln (W.ret ?_)))))))))))
     refine E.blockR (E.thenR (E.KLR (E.blockR (E.KSR (E.ret3 rfl rfl rfl rfl (fun w1 hw=>?_))))))
     cases h
     exact ⟨_,_,rfl,⟨rfl,rfl⟩,hw⟩
    refine L.r 4 rfl (ln (W.condF rfl (W.skip (E.thenN (sr (L.r 2 rfl (L.m (V:=fun x9=>.int .i64 x9) h rfl (Y.addM rfl rfl) (fun x9 ex9 h=>(L.r 3 rfl (ln (W.ret ?_)))))))))))
    refine E.blockR (E.thenR (E.KLR (E.blockR (E.KSR (E.ret3 rfl rfl rfl rfl (fun w1 hw=>?_))))))
    cases h
    exact ⟨_,_,rfl,⟨rfl,rfl⟩,hw⟩
   exact ln (W.condF rfl (W.skip (E.blockN (E.thenN (W.region (L.m (V:=fun x10=>.int .i64 x10) h rfl (Y.addM rfl rfl) (fun x10 ex10 h=>(L.r 1 rfl (L.nil (E.aJ ⟨Go.bits .or .u64 gx1 x4,x10,rfl,rfl,by rw [hg1];exact h⟩ hI))))))))))
  exact ln (W.seq (W.condF rfl (W.exit (E.thenX (E.KLX (E.blockX (E.joinJ ⟨rfl,rfl,h⟩ trivial hI)))))))
 rintro _ _ ⟨rfl,rfl,h⟩
 rw [qhP] at h
 refine sr (L.r 3 rfl (ln (W.ret (E.ret3 rfl rfl rfl rfl (fun w1 hw=>?_)))))
 cases h
 exact ⟨_,_,rfl,⟨rfl,rfl⟩,hw⟩
set_option maxRecDepth 100000 in
set_option maxHeartbeats 8000000 in
theorem W71 (a0:(List UInt8)) (w:World) (r:(Int×Int×Int)) (h:M71 a0=some r):Does Tryz.prog 71 [st a0] w fun u m=>u=.tuple #[.int .i64 r.1,.int .i64 r.2.1,.int .i64 r.2.2]∧m=[]:=by
 rw [M71] at h
 refine body (n:=28) Tryz.func71 rfl rfl rfl (Cls.refl w) (sr (L.r 3 rfl (nsr (L.r 1 rfl ?_))))
 obtain ⟨x1,x2,x3,e4,h⟩:=zt h
 refine L.y rfl (Y.does (by kernel_rfl) rfl (fun w' hw=>(qoC a0 w' _ e4).mono (fun _ _ h=>h.1))) (L.r 7 rfl (ln (W.seq (sr (L.r 1 rfl (L.ite h rfl (Y.neq rfl rfl) (fun c5 h=>?_) (fun c5 h=>?_)))))))
 ·refine ln (W.condT rfl (sr (L.r 4 rfl (ln (W.ret (E.thenR (E.ret3 rfl rfl rfl rfl (fun w1 hw=>?_))))))))
  cases h
  exact ⟨_,_,rfl,⟨rfl,rfl⟩,hw⟩
 refine ln (W.condF rfl (W.skip (E.thenN (sr (L.r 1 rfl (L.m (V:=fun x6=>.int .u64 x6) h rfl (Y.shrM rfl rfl) (fun x6 ex6 h=>(L.r 1 rfl (ln (W.seq (W.seq ?_)))))))))))
 refine W.region (L.r 1 rfl (L.y rfl (Y.and rfl rfl) (L.ite h rfl (Y.eql rfl rfl) (fun c7 h=>?_) (fun c7 h=>?_))))
 ·refine ln (W.condT rfl (W.region (L.r 1 rfl (L.y rfl (Y.comM rfl) (L.r 1 rfl (nsr (L.r 1 rfl (L.y rfl (Y.conv Tryz.underlying178 Tryz.underlying3 rfl) (L.r 4 rfl ?_)))))))))
  refine ln (W.ret (E.ret3 rfl rfl rfl rfl (fun w1 hw=>?_)))
  cases h
  exact ⟨_,_,rfl,⟨rfl,rfl⟩,hw⟩
 refine ln (W.condF rfl (W.skip (E.thenN (sr (L.r 1 rfl (L.y rfl (Y.conv Tryz.underlying178 Tryz.underlying3 rfl) (L.r 4 rfl (ln (W.ret (E.ret3 rfl rfl rfl rfl (fun w1 hw=>?_)))))))))))
 cases h
 exact ⟨_,_,rfl,⟨rfl,rfl⟩,hw⟩
set_option maxRecDepth 100000 in
set_option maxHeartbeats 8000000 in
theorem qoB (a0:Int) (w:World) (r:(List UInt8)) (h:qlI a0=some r):Does Tryz.prog 133 [.int .u64 a0] w fun u m=>u=st r∧m=[]:=by
 rw [qlI] at h
 refine body (n:=20) Tryz.func133 rfl rfl rfl (Cls.refl w) (sr (L.r 1 rfl (nsr (L.r 1 rfl (ln (W.seqJ (fun gs D=>∃ gx1 gv2 gl3,gs=[(0,.int .u64 gx1),(3,gv2)]∧D=Cls w [] [.sl gv2 5 1 (gl3.map (IK .u8))]∧qdZ gx1 gl3=some r) ?_ ?_))))))
 ·refine W.block (W.nilSl 5 1 (W.loopJ (fun m gs D=>∃ gx4 gv5 gl6,gs=[(0,.int .u64 gx4),(3,gv5)]∧D=Cls w [] [.sl gv5 5 1 (gl6.map (IK .u8))]∧kP m gx4 gl6=some r) ⟨a0,tQm,[],rfl,rfl,h⟩ ⟨rfl,rfl,trivial⟩ hI ?_))
  rintro m _ _ ⟨gx4,gv5,gl6,rfl,rfl,h⟩
  rcases m with _ | m
  ·rw [kP] at h;cases h
  rw [kP] at h
  generalize hg1:kP m=go1 at h
  rw [qco] at h
  refine W.seq (sr (L.r 1 rfl (L.ite h rfl (Y.geq rfl rfl) (fun c4 h=>?_) (fun c4 h=>?_))))
  ·refine ln (W.condT rfl (W.skip (E.thenN (W.block (sr (L.r 2 rfl (L.y rfl (Y.conv Tryz.underlying178 Tryz.underlying5 rfl) (L.y rfl (Y.or rfl rfl) (L.litOne rfl Tryz.underlying168 eL5 rfl rfl ?_)))))))))
   intro b5
   refine L.appM (i:=1) (g:=(IK .u8)) (l:=gl6) (more:=[Go.bits .or .u8 (IntKind.wrap .u8 gx4) 128]) h rfl Tryz.underlying168 eL5 rfl rfl rfl (fun w hw=>As.at_ (hw.get (i:=0) rfl)) (qcK _) rfl ?_
   intro v6 l7 el7 h
   exact L.r 1 rfl (nr (L.r 1 rfl (L.m (V:=fun x8=>.int .u64 x8) h rfl (Y.shrM rfl rfl) (fun x8 ex8 h=>(L.r 1 rfl (L.nil (E.blockN (E.aJ ⟨x8,v6,l7,rfl,rfl,by rw [hg1];exact h⟩ (sI [0])))))))))
  exact ln (W.condF rfl (W.exit (E.thenX (E.KLX (E.blockX (E.jJ ⟨gx4,gv5,gl6,rfl,rfl,h⟩ hI))))))
 rintro _ _ ⟨gx1,gv2,gl3,rfl,rfl,h⟩
 rw [qdZ] at h
 refine sr (L.r 2 rfl (L.y rfl (Y.conv Tryz.underlying178 Tryz.underlying5 rfl) (L.litOne rfl Tryz.underlying168 eL5 rfl rfl ?_)))
 intro b1
 refine L.appM (i:=1) (g:=(IK .u8)) (l:=gl3) (more:=[IntKind.wrap .u8 gx1]) h rfl Tryz.underlying168 eL5 rfl rfl rfl (fun w hw=>As.at_ (hw.get (i:=0) rfl)) (qcK _) rfl ?_
 intro v2 l3 el3 h
 refine L.y rfl (Y.convBytes (l:=l3) Tryz.underlying168 Tryz.underlying5 Tryz.underlying9 rfl (fun w hw=>As.at_ (hw.get (i:=0) rfl))) (L.r 1 rfl (ln (W.ret (E.ret1 rfl rfl (fun w1 hw=>?_)))))
 cases h
 exact ⟨_,_,rfl,⟨rfl,rfl⟩,hw.s []⟩
set_option maxRecDepth 100000 in
set_option maxHeartbeats 8000000 in
theorem W89 (a0:Int) (w:World) (r:(List UInt8)) (h:M89 a0=some r):Does Tryz.prog 89 (jX a0) w fun u m=>u=st r∧m=[]:=by
 rw [M89] at h
 refine body (n:=13) Tryz.func89 rfl rfl rfl (Cls.refl w) (sr (L.r 1 rfl (nsr (L.r 1 rfl (L.y rfl (Y.conv Tryz.underlying3 Tryz.underlying178 rfl) (L.m (V:=fun x1=>.int .u64 x1) h rfl (Y.shlM rfl rfl) (fun x1 ex1 h=>(L.r 1 rfl (ln ?_)))))))))
 refine W.seq (sr (L.r 1 rfl (L.ite h rfl (Y.lss rfl rfl) (fun c2 h=>?_) (fun c2 h=>?_))))
 ·refine ln (W.condT rfl (W.region (L.r 1 rfl (L.y rfl (Y.comM rfl) (L.r 1 rfl (nsr (L.r 1 rfl ?_)))))))
  obtain ⟨s3,e4,h⟩:=qc h
  refine L.y rfl (Y.does (by kernel_rfl) rfl (fun w' hw=>(qoB (qnA .u64 x1) w' _ e4).mono (fun _ _ h=>h.1))) (L.r 1 rfl (ln (W.ret (E.ret1 rfl rfl (fun w1 hw=>?_)))))
  cases h
  exact ⟨_,_,rfl,⟨rfl,rfl⟩,hw⟩
 refine ln (W.condF rfl (W.skip (E.thenN (sr (L.r 1 rfl ?_)))))
 obtain ⟨s5,e6,h⟩:=qc h
 refine L.y rfl (Y.does (by kernel_rfl) rfl (fun w' hw=>(qoB x1 w' _ e6).mono (fun _ _ h=>h.1))) (L.r 1 rfl (ln (W.ret (E.ret1 rfl rfl (fun w1 hw=>?_)))))
 cases h
 exact ⟨_,_,rfl,⟨rfl,rfl⟩,hw⟩
set_option maxRecDepth 100000 in
set_option maxHeartbeats 8000000 in
theorem qpL (a0:(List UInt8)) (w:World) (r:Int) (h:qnE a0=some r):Does Tryz.prog 165 [st a0] w fun u m=>u=.int .u32 r∧m=[]:=by
 rw [qnE] at h
 refine body (n:=27) Tryz.func165 rfl rfl rfl (Cls.refl w) (sr (L.r 1 rfl (nsr (L.r 2 rfl (ln (W.seqJ (fun gs D=>∃ gx1 gx2,gs=[(3,.int .u32 gx1),(4,.int .u32 gx2)]∧D=Cls w [] []∧qdW gx1 gx2=some r) ?_ ?_))))))
 ·refine sr (L.r 1 rfl (L.y rfl (Y.lenS Tryz.underlying9 rfl) (L.r 1 rfl (ln (W.block (W.loopJ (fun m gs D=>∃ gx3 gx4 gx5,gs=[(0,st a0),(3,.int .u32 gx3),(4,.int .u32 gx4),(7,.int .i64 (a0.length:Int)),(8,.int .i64 gx5)]∧D=Cls w [] []∧kO a0 m gx3 gx4 gx5=some r) ⟨1,0,0,rfl,rfl,h⟩ ⟨rfl,rfl,rfl,rfl,rfl,trivial⟩ hI ?_))))))
  rintro m _ _ ⟨gx3,gx4,gx5,rfl,rfl,h⟩
  rcases m with _ | m
  ·rw [kO] at h;cases h
  rw [kO] at h
  generalize hg1:kO a0 m=go1 at h
  rw [qcn] at h
  refine sr (L.ite h rfl (Y.lss rfl rfl) (fun c2 h=>?_) (fun c2 h=>?_))
  ·refine ln (W.seq (W.condT rfl (W.skip (E.thenN (W.seq (W.block (sr (L.r 2 rfl (ln (W.seq ?_))))))))))
   refine W.region (L.r 3 rfl (L.m (V:=fun x3=>.int .u8 x3) h rfl (Y.indexSM Tryz.underlying9 rfl rfl) (fun x3 ex3 h=>(L.y rfl (Y.conv Tryz.underlying5 Tryz.underlying200 rfl) (L.y rfl (Y.addW rfl rfl) (L.m (V:=fun x4=>.int .u32 x4) h rfl (Y.remM rfl rfl) (fun x4 ex4 h=>(L.r 1 rfl (nr (L.r 2 rfl (L.y rfl (Y.addW rfl rfl) (L.m (V:=fun x5=>.int .u32 x5) h rfl (Y.remM rfl rfl) (fun x5 ex5 h=>(L.r 1 rfl ?_))))))))))))))
   exact L.nil (E.blockN (E.thenN (W.region (L.m (V:=fun x6=>.int .i64 x6) h rfl (Y.addM rfl rfl) (fun x6 ex6 h=>(L.r 1 rfl (L.nil (E.aJ ⟨x4,x5,x6,rfl,rfl,by rw [hg1];exact h⟩ hI))))))))
  exact ln (W.seq (W.condF rfl (W.exit (E.thenX (E.KLX (E.blockX (E.jJ ⟨gx3,gx4,rfl,rfl,h⟩ hI)))))))
 rintro _ _ ⟨gx1,gx2,rfl,rfl,h⟩
 rw [qdW] at h
 refine sr (L.r 1 rfl (L.m (V:=fun x1=>.int .u32 x1) h rfl (Y.shlM rfl rfl) (fun x1 ex1 h=>(L.r 1 rfl (L.y rfl (Y.or rfl rfl) (L.r 1 rfl (ln (W.ret (E.ret1 rfl rfl (fun w1 hw=>?_))))))))))
 cases h
 exact ⟨_,_,rfl,⟨rfl,rfl⟩,hw⟩
set_option maxRecDepth 100000 in
set_option maxHeartbeats 8000000 in
theorem qoA (a0:(List UInt8)) (w:World) (r:((List UInt8)×Int)) (h:qjo a0=some r):Does Tryz.prog 134 [st a0] w fun u m=>u=.tuple #[st r.1,.int .i64 r.2]∧m=[]:=by
 rw [qjo] at h
 refine body (n:=25) Tryz.func134 rfl rfl rfl (Cls.refl w) (sr (L.r 2 rfl (ln (W.seq (sr (L.r 1 rfl (L.y rfl (Y.lenS Tryz.underlying9 rfl) (L.ite h rfl (Y.gtr rfl rfl) (fun c1 h=>?_) (fun c1 h=>?_)))))))))
 ·refine ln (W.condT rfl (sr (L.r 2 rfl (ln (W.ret (E.thenR (E.ret2 rfl rfl rfl (fun w1 hw=>?_))))))))
  cases h
  exact ⟨_,_,rfl,⟨rfl,rfl⟩,hw⟩
 refine ln (W.condF rfl (W.skip (E.thenN (sr (L.r 1 rfl ?_)))))
 obtain ⟨x2,e3,h⟩:=qc h
 refine L.y rfl (Y.does (by kernel_rfl) rfl (fun w' hw=>(qpL a0 w' _ e3).mono (fun _ _ h=>h.1))) (L.r 1 rfl (nsr (L.r 2 rfl (L.m (V:=fun x4=>.int .u32 x4) h rfl (Y.shrM rfl rfl) (fun x4 ex4 h=>(L.y rfl (Y.conv Tryz.underlying200 Tryz.underlying5 rfl) (L.r 1 rfl (L.m (V:=fun x5=>.int .u32 x5) h rfl (Y.shrM rfl rfl) (fun x5 ex5 h=>(L.y rfl (Y.conv Tryz.underlying200 Tryz.underlying5 rfl) (L.r 1 rfl (L.m (V:=fun x6=>.int .u32 x6) h rfl (Y.shrM rfl rfl) (fun x6 ex6 h=>?_)))))))))))))
 refine L.y rfl (Y.conv Tryz.underlying200 Tryz.underlying5 rfl) (L.r 1 rfl (L.y rfl (Y.conv Tryz.underlying200 Tryz.underlying5 rfl) (L.lit (xs:=[.tmp 13,.tmp 16,.tmp 19,.tmp 21]) rfl Tryz.underlying168 eL5 rfl rfl rfl rfl (by simp [Value.cells,st]) ?_)))
 intro b7
 refine L.y rfl (Y.convBytes (l:=[IntKind.wrap .u8 x4,IntKind.wrap .u8 x5,IntKind.wrap .u8 x6,IntKind.wrap .u8 x2]) Tryz.underlying168 Tryz.underlying5 Tryz.underlying9 rfl (fun w hw=>As.at_ (hw.get (i:=0) rfl))) (L.m (V:=fun s8=>st s8) h rfl (Y.catM rfl rfl) (fun s8 es8 h=>(L.r 2 rfl (ln (W.ret (E.ret2 rfl rfl rfl (fun w1 hw=>?_)))))))
 cases h
 exact ⟨_,_,rfl,⟨rfl,rfl⟩,hw.s []⟩
set_option maxRecDepth 100000 in
set_option maxHeartbeats 8000000 in
theorem qo7 (a0:Int) (w:World) (r:(List UInt8)) (h:qnH a0=some r):Does Tryz.prog 107 (jX a0) w fun u m=>u=st r∧m=[]:=by
 rw [qnH] at h
 refine body (n:=13) Tryz.func107 rfl rfl rfl (Cls.refl w) (sr (L.r 1 rfl (nsr (L.r 1 rfl ?_))))
 obtain ⟨s1,e2,h⟩:=qc h
 refine L.y rfl (Y.does qnu rfl (fun w' hw=>(W89 a0 w' _ e2).mono (fun _ _ h=>h.1))) ?_
 obtain ⟨s3,x4,e5,h⟩:=qt h
 refine L.y rfl (Y.does (by kernel_rfl) rfl (fun w' hw=>(qoA s1 w' _ e5).mono (fun _ _ h=>h.1))) (L.r 5 rfl (nsr (L.r 1 rfl (L.m (V:=fun s6=>st s6) h rfl (Y.catM rfl rfl) (fun s6 es6 h=>(L.r 1 rfl (ln (W.ret (E.ret1 rfl rfl (fun w1 hw=>?_))))))))))
 cases h
 exact ⟨_,_,rfl,⟨rfl,rfl⟩,hw⟩
set_option maxRecDepth 100000 in
set_option maxHeartbeats 8000000 in
theorem W68 (a0:(List UInt8)) (w:World) (r:(Int×Int)) (h:M68 a0=some r):Does Tryz.prog 68 [st a0] w fun u m=>u=.tuple #[.int .i64 r.1,.int .i64 r.2]∧m=[]:=by
 rw [M68] at h
 refine body (n:=41) Tryz.func68 rfl rfl rfl (Cls.refl w) (sr (L.r 2 rfl (ln (W.seq (sr (L.r 1 rfl ?_))))))
 obtain ⟨s1,e2,h⟩:=qc h
 refine L.y rfl (Y.does (by kernel_rfl) rfl (fun w' hw=>(qpU a0 ([0]) w' _ e2).mono (fun _ _ h=>h.1))) (L.ite h rfl (Y.eqlS rfl rfl) (fun c3 h=>?_) (fun c3 h=>?_))
 ·refine ln (W.condT rfl (sr (L.r 2 rfl (ln (W.ret (E.thenR (E.ret2 rfl rfl rfl (fun w1 hw=>?_))))))))
  cases h
  exact ⟨_,_,rfl,⟨rfl,rfl⟩,hw⟩
 refine ln (W.condF rfl (W.skip (E.thenN (sr (L.r 1 rfl (L.m (V:=fun s4=>st s4) h rfl (Y.sliceSL Tryz.underlying9 rfl rfl) (fun s4 es4 h=>?_)))))))
 obtain ⟨x5,x6,x7,e8,h⟩:=zt h
 refine L.y rfl (Y.does qgF rfl (fun w' hw=>(W71 s4 w' _ e8).mono (fun _ _ h=>h.1))) (L.r 7 rfl (nsr (L.r 1 rfl ?_)))
 obtain ⟨s9,e10,h⟩:=qc h
 refine L.y rfl (Y.does (by kernel_rfl) rfl (fun w' hw=>(qo7 x5 w' _ e10).mono (fun _ _ h=>h.1))) (L.r 1 rfl (ln (W.seq (sr (L.cutJ 6 (fun gs D=>∃ gb1,gs=[(0,st a0),(4,.int .i64 x5),(7,st s9),(25,.bool gb1)]∧D=Cls w [] []∧qhb x5 s9 a0 gb1=some r) ?_ ?_)))))
 ·refine L.r 1 rfl (L.ite h rfl (Y.neq rfl rfl) (fun c17 h=>?_) (fun c17 h=>?_))
  ·exact L.r 4 rfl (L.nil (E.jJ ⟨true,rfl,rfl,h⟩ hI))
  refine L.r 2 rfl (L.take rfl (L.ite h rfl (Y.lss rfl rfl) (fun c18 h=>?_) (fun c18 h=>?_)))
  ·exact L.r 1 rfl (L.nil (E.jJ ⟨true,rfl,rfl,h⟩ hI))
  exact L.r 1 rfl (L.nil (E.jJ ⟨false,rfl,rfl,h⟩ hI))
 rintro _ _ ⟨gb1,rfl,rfl,h⟩
 rw [qhb] at h
 rcases gb1 with _ | _
 ·replace h:=zn h
  refine L.r 2 rfl (L.take rfl (L.ite h rfl (Y.gtr rfl rfl) (fun c11 h=>?_) (fun c11 h=>?_)))
  ·refine L.r 11 rfl (ln (W.condT rfl (sr (L.r 2 rfl (ln (W.ret (E.thenR (E.ret2 rfl rfl rfl (fun w1 hw=>?_)))))))))
   cases h
   exact ⟨_,_,rfl,⟨rfl,rfl⟩,hw⟩
  refine L.r 4 rfl (L.take rfl (L.y rfl (Y.lenS Tryz.underlying9 rfl) (L.take rfl (L.m (V:=fun x12=>.int .i64 x12) h rfl (Y.subM rfl rfl) (fun x12 ex12 h=>(L.take rfl ?_))))))
  obtain ⟨s13,e14,h⟩:=qc h
  refine L.y rfl (Y.does (by kernel_rfl) rfl (fun w' hw=>(qbC ([0]) x12 w' _ e14).mono (fun _ _ h=>h.1))) (L.take rfl (L.m (V:=fun s15=>st s15) h rfl (Y.catM rfl rfl) (fun s15 es15 h=>(L.r 1 rfl (L.take rfl (L.ite h rfl (Y.neqS rfl rfl) (fun c16 h=>?_) (fun c16 h=>?_)))))))
  ·refine L.r 1 rfl (ln (W.condT rfl (sr (L.r 2 rfl (ln (W.ret (E.thenR (E.ret2 rfl rfl rfl (fun w1 hw=>?_)))))))))
   cases h
   exact ⟨_,_,rfl,⟨rfl,rfl⟩,hw⟩
  refine L.r 1 rfl (ln (W.condF rfl (W.skip (E.thenN (sr (L.r 3 rfl (ln (W.ret (E.ret2 rfl rfl rfl (fun w1 hw=>?_))))))))))
  cases h
  exact ⟨_,_,rfl,⟨rfl,rfl⟩,hw⟩
 replace h:=zm h
 refine L.r 14 rfl (ln (W.condT rfl (sr (L.r 2 rfl (ln (W.ret (E.thenR (E.ret2 rfl rfl rfl (fun w1 hw=>?_)))))))))
 cases h
 exact ⟨_,_,rfl,⟨rfl,rfl⟩,hw⟩
set_option maxRecDepth 100000 in
set_option maxHeartbeats 8000000 in
theorem qpT (a0:(List UInt8)) (a1:Int) (w:World) (r:(Int×(List UInt8)×Bool)) (h:qnG a0 a1=some r):Does Tryz.prog 108 [st a0,.int .i64 a1] w fun u m=>u=.tuple #[.int .i64 r.1,st r.2.1,.bool r.2.2]∧m=[]:=by
 rw [qnG] at h
 refine body (n:=47) Tryz.func108 rfl rfl rfl (Cls.refl w) (sr (L.r 3 rfl (ln (W.seq (sr (L.r 1 rfl (L.m (V:=fun s1=>st s1) h rfl (Y.sliceSH Tryz.underlying9 rfl rfl) (fun s1 es1 h=>(L.ite h rfl (Y.neqS rfl rfl) (fun c2 h=>?_) (fun c2 h=>?_))))))))))
 ·refine ln (W.condT rfl (sr (L.r 3 rfl (ln (W.ret (E.thenR (E.ret3 rfl rfl rfl rfl (fun w1 hw=>?_))))))))
  cases h
  exact ⟨_,_,rfl,⟨rfl,rfl⟩,hw⟩
 refine ln (W.condF rfl (W.skip (E.thenN (sr (L.r 1 rfl (L.m (V:=fun s3=>st s3) h rfl (Y.sliceSL Tryz.underlying9 rfl rfl) (fun s3 es3 h=>?_)))))))
 obtain ⟨x4,x5,x6,e7,h⟩:=zt h
 refine L.y rfl (Y.does qgF rfl (fun w' hw=>(W71 s3 w' _ e7).mono (fun _ _ h=>h.1))) (L.r 7 rfl (ln (W.seq (sr (L.r 1 rfl (L.ite h rfl (Y.neq rfl rfl) (fun c8 h=>?_) (fun c8 h=>?_)))))))
 ·refine ln (W.condT rfl (sr (L.r 3 rfl (ln (W.ret (E.thenR (E.ret3 rfl rfl rfl rfl (fun w1 hw=>?_))))))))
  cases h
  exact ⟨_,_,rfl,⟨rfl,rfl⟩,hw⟩
 refine ln (W.condF rfl (W.skip (E.thenN (sr (L.r 2 rfl (L.m (V:=fun x9=>.int .i64 x9) h rfl (Y.addM rfl rfl) (fun x9 ex9 h=>(L.m (V:=fun s10=>st s10) h rfl (Y.sliceSL Tryz.underlying9 rfl rfl) (fun s10 es10 h=>?_)))))))))
 obtain ⟨x11,x12,x13,e14,h⟩:=zt h
 refine L.y rfl (Y.does qgF rfl (fun w' hw=>(W71 s10 w' _ e14).mono (fun _ _ h=>h.1))) (L.r 7 rfl (ln (W.seq (W.quietC mixed (by kernel_rfl) (fun _ hw=>hw.drew) (fun hC=>(U.r 3 rfl (U.m (V:=fun x15=>.int .i64 x15) h rfl (Y.addM rfl rfl) (fun x15 ex15 h=>(U.r 1 rfl (U.m (V:=fun x16=>.int .i64 x16) h rfl (Y.addM rfl rfl) (fun x16 ex16 h=>(U.m (V:=fun s17=>st s17) h rfl (Y.sliceSL Tryz.underlying9 rfl rfl) (fun s17 es17 h=>(U.r 1 rfl (U.ite h rfl (Y.eql rfl rfl) (fun c18 h=>?_) (fun c18 h=>?_))))))))))))))))
 ·refine U.r 3 rfl (U.take rfl (U.y rfl (Y.eql rfl rfl) (U.r 4 rfl (U.nil (E.thenN (W.ret (E.ret3 rfl rfl rfl rfl (fun w1 hw=>?_))))))))
  cases h
  exact ⟨_,_,rfl,⟨rfl,rfl⟩,hw⟩
 refine U.r 8 rfl (U.nil (E.thenN (W.ret (E.ret3 rfl rfl rfl rfl (fun w1 hw=>?_)))))
 cases h
 exact ⟨_,_,rfl,⟨rfl,rfl⟩,hw⟩
set_option maxRecDepth 100000 in
set_option maxHeartbeats 8000000 in
theorem qo6 (a0:(List UInt8)) (a1:Int) (a2:Int) (w:World) (r:(List UInt8)) (h:ql6 a0 a1 a2=some r):Does Tryz.prog 110 [st a0,.int .i64 a1,.int .i64 a2] w fun u m=>u=st r∧m=[]:=by
 rw [ql6] at h
 refine body (n:=14) Tryz.func110 rfl rfl rfl (Cls.refl w) (sr (L.r 1 rfl (nsr (L.r 2 rfl ?_))))
 obtain ⟨s1,e2,h⟩:=qc h
 refine L.y rfl (Y.does qnu rfl (fun w' hw=>(W89 a1 w' _ e2).mono (fun _ _ h=>h.1))) (L.m (V:=fun s3=>st s3) h rfl (Y.catM rfl rfl) (fun s3 es3 h=>(L.r 1 rfl ?_)))
 obtain ⟨s4,e5,h⟩:=qc h
 refine L.y rfl (Y.does qnu rfl (fun w' hw=>(W89 a2 w' _ e5).mono (fun _ _ h=>h.1))) (L.m (V:=fun s6=>st s6) h rfl (Y.catM rfl rfl) (fun s6 es6 h=>(L.r 1 rfl (ln (W.ret (E.ret1 rfl rfl (fun w1 hw=>?_)))))))
 cases h
 exact ⟨_,_,rfl,⟨rfl,rfl⟩,hw⟩
set_option maxRecDepth 100000 in
set_option maxHeartbeats 8000000 in
theorem qpQ (a0:(List UInt8)) (a1:(List UInt8)) (w:World) (r:Bool) (h:qoF a0 a1=some r):Does Tryz.prog 115 [st a0,st a1] w fun u m=>u=.bool r∧m=[]:=by
 rw [qoF] at h
 refine body (n:=18) Tryz.func115 rfl rfl rfl (Cls.refl w) (sr (L.r 1 rfl (nsr (L.r 1 rfl (L.y rfl (Y.lenS Tryz.underlying9 rfl) (L.r 1 rfl (L.y rfl (Y.lenS Tryz.underlying9 rfl) (L.ite h rfl (Y.geq rfl rfl) (fun c1 h=>?_) (fun c1 h=>?_)))))))))
 ·refine L.r 3 rfl (L.take rfl (L.y rfl (Y.lenS Tryz.underlying9 rfl) (L.take rfl (L.m (V:=fun s2=>st s2) h rfl (Y.sliceSH Tryz.underlying9 rfl rfl) (fun s2 es2 h=>(L.r 1 rfl (L.take rfl (L.y rfl (Y.eqlS rfl rfl) (L.r 2 rfl (ln (W.ret (E.ret1 rfl rfl (fun w1 hw=>?_)))))))))))))
  cases h
  exact ⟨_,_,rfl,⟨rfl,rfl⟩,hw⟩
 refine L.r 9 rfl (ln (W.ret (E.ret1 rfl rfl (fun w1 hw=>?_))))
 cases h
 exact ⟨_,_,rfl,⟨rfl,rfl⟩,hw⟩
set_option maxRecDepth 100000 in
set_option maxHeartbeats 8000000 in
theorem W74 (a0:(List UInt8)) (a1:(List UInt8)) (w:World) (r:Bool) (h:M74 a0 a1=some r):Does Tryz.prog 74 [st a0,st a1] w fun u m=>u=.bool r∧m=[]:=by
 rw [M74] at h
 refine body (n:=8) Tryz.func74 rfl rfl rfl (Cls.refl w) (sr (L.r 1 rfl (nsr (L.r 2 rfl ?_))))
 obtain ⟨b1,e2,h⟩:=qc h
 refine L.y rfl (Y.does (by kernel_rfl) rfl (fun w' hw=>(qpQ a0 a1 w' _ e2).mono (fun _ _ h=>h.1))) (L.r 1 rfl (ln (W.ret (E.ret1 rfl rfl (fun w1 hw=>?_)))))
 cases h
 exact ⟨_,_,rfl,⟨rfl,rfl⟩,hw⟩
set_option maxRecDepth 100000 in
set_option maxHeartbeats 8000000 in
theorem qpS (a0:(List UInt8)) (w:World) (r:((List UInt8)×Int)) (h:qoH a0=some r):Does Tryz.prog 111 [st a0] w fun u m=>u=.tuple #[st r.1,.int .i64 r.2]∧m=[]:=by
 rw [qoH] at h
 refine body (n:=27) Tryz.func111 rfl rfl rfl (Cls.refl w) (sr (L.r 2 rfl (nsr (L.r 1 rfl (L.y rfl (Y.lenS Tryz.underlying9 rfl) (L.m (V:=fun x1=>.int .i64 x1) h rfl (Y.subM rfl rfl) (fun x1 ex1 h=>(L.r 1 rfl (ln ?_)))))))))
 refine W.seq (sr (L.r 1 rfl (L.ite h rfl (Y.lss rfl rfl) (fun c2 h=>?_) (fun c2 h=>?_))))
 ·refine ln (W.condT rfl (sr (L.r 2 rfl (ln (W.ret (E.thenR (E.ret2 rfl rfl rfl (fun w1 hw=>?_))))))))
  cases h
  exact ⟨_,_,rfl,⟨rfl,rfl⟩,hw⟩
 refine ln (W.condF rfl (W.skip (E.thenN (W.seq (sr (L.r 1 rfl (L.ite h rfl (Y.gtr rfl rfl) (fun c3 h=>?_) (fun c3 h=>?_))))))))
 ·refine ln (W.condT rfl (sr (L.r 2 rfl (ln (W.ret (E.thenR (E.ret2 rfl rfl rfl (fun w1 hw=>?_))))))))
  cases h
  exact ⟨_,_,rfl,⟨rfl,rfl⟩,hw⟩
 refine ln (W.condF rfl (W.skip (E.thenN (W.seq (sr (L.r 2 rfl (L.m (V:=fun s4=>st s4) h rfl (Y.sliceSH Tryz.underlying9 rfl rfl) (fun s4 es4 h=>?_))))))))
 obtain ⟨s5,x6,e7,h⟩:=qt h
 refine L.y rfl (Y.does (by kernel_rfl) rfl (fun w' hw=>(qoA s4 w' _ e7).mono (fun _ _ h=>h.1))) (L.r 5 rfl (nsr (L.r 2 rfl (L.ite h rfl (Y.neqS rfl rfl) (fun c8 h=>?_) (fun c8 h=>?_)))))
 ·refine ln (W.condT rfl (sr (L.r 2 rfl (ln (W.ret (E.thenR (E.ret2 rfl rfl rfl (fun w1 hw=>?_))))))))
  cases h
  exact ⟨_,_,rfl,⟨rfl,rfl⟩,hw⟩
 refine ln (W.condF rfl (W.skip (E.thenN (sr (L.r 2 rfl (L.m (V:=fun s9=>st s9) h rfl (Y.sliceSH Tryz.underlying9 rfl rfl) (fun s9 es9 h=>(L.r 2 rfl (ln (W.ret (E.ret2 rfl rfl rfl (fun w1 hw=>?_))))))))))))
 cases h
 exact ⟨_,_,rfl,⟨rfl,rfl⟩,hw⟩
set_option maxRecDepth 100000 in
set_option maxHeartbeats 8000000 in
theorem W69 (a0:Int) (a1:Int) (a2:Int) (A114:(List TDisk)) (A152:(List TLog)) (gP114:Nat→Nat) (gP152:Nat→Nat) (qP114:Nat→List Value) (qP152:Nat→List Value) (w:World) (r:(Trecord×Bool)) (h:M69 a0 a1 a2 A114 A152=some r) (F:List Nat) (hc0:Cls w F (zd gP114 qP114 A114 gP152 qP152 A152) w):zu Tryz.prog 69 [VP gP152 a0,.int .i64 a1,.int .i64 a2] F w fun u m=>u=.tuple #[.agg #[.int .i64 r.1.epoch_,st r.1.text_,.int .i64 r.1.size_],.bool r.2]∧m=(zd gP114 qP114 A114 gP152 qP152 A152):=by
 rw [M69] at h
 refine body (n:=138) Tryz.func69 rfl rfl rfl hc0 (sr (L.alloc rfl qhZ ?_))
 intro b1
 refine L.r 1 rfl (ln (W.seq (sr (L.r 2 rfl ?_))))
 obtain ⟨th2,eth2,h⟩:=qc h
 refine L.to (D:=Cls w F [tQl gP152 a0 gP114 th2,qer gP114 gP152 qP152 A152 a0,jC b1,tQt gP114 qP114 A114]) (fun _ hw=>hw.aO 2 rfl eth2) (L.y rfl (Y.apNil rfl eth2) (L.y rfl (Y.fieldP qb9 rfl) (L.y rfl (Y.loadP (i:=0) ag3 rfl rfl rfl) (L.ite h rfl (Y.geq rfl rfl) (fun c3 h=>?_) (fun c3 h=>?_)))))
 ·refine ln (W.condT rfl (sr (L.y rfl (Y.build (cells:=qih) rfl (by kernel_rfl)) (L.sv (i:=2) (vs:=tQE) zI rfl rfl rfl rfl rfl nb (L.r 1 rfl (ln (W.ret (E.thenR (E.to (D:=Cls w F [tQw gP114 gP152 qP152 A152,jC b1,tQt gP114 qP114 A114]) (fun _ hw=>hw.aS [0,1,2,3] eth2 rfl) (E.retR2 rfl (Rv.cellW (i:=1) wo zI rfl rfl rfl) (Rv.tmp rfl) (fun w1 hw=>?_)))))))))))
  cases h
  exact ⟨_,_,rfl,⟨rfl,rfl⟩,hw.s [2,0]⟩
 refine ln (W.condF rfl (W.skip (E.thenN (W.seq (W.drawn2 (k:=16) (stC [[10]] [Cls w F [tQl gP152 a0 gP114 th2,qer gP114 gP152 qP152 A152 a0,jC b1,tQt gP114 qP114 A114]] (Cls w F [jC b1,tQt gP114 qP114 A114])) rfl mixed (fun _ hw=>hw.drew) (Sc.now (by kernel_rfl) hI) (V2.zz [] (Zc.on' (Zc.fin hI) (sI [2,3])) (fun hz15=>(V2.r [0] (by kernel_rfl) rfl (V2.apNil (i:=1) (Nx2.of [] (by kernel_rfl) rfl hz15) rfl rfl rfl eth2 (V2.q 2 [] hz15 rfl rfl (Y.fieldP ky rfl) (V2.zz [10] (Zc.at1 hI) (fun hz16=>(V2.q 3 [10] hz16 rfl rfl (Y.loadP (i:=0) ql3 rfl rfl rfl) (V2.r [4] (by kernel_rfl) rfl ?_))))))))))))))
 refine V2.apNil (i:=5) (Nx2.of [] (by kernel_rfl) rfl hz15) rfl rfl rfl eth2 (V2.q 6 [] hz15 rfl rfl (Y.fieldP yJ rfl) (V2.q 7 [10] hz16 rfl rfl (Y.loadP (i:=0) ag3 rfl rfl rfl) (V2.r [8] (by kernel_rfl) rfl (V2.m (i:=9) (V':=fun x17=>.int .i64 x17) h (Nx2.of [] (by kernel_rfl) rfl hz15) rfl rfl rfl (Y.addM rfl rfl) (fun x17 ex17 h=>(V2.eff (i:=10) (by kernel_rfl) rfl (L.to (D:=Cls w F [tQw gP114 gP152 qP152 A152,jC b1,tQt gP114 qP114 A114]) (fun _ hw=>hw.aS [0,1,2,3] eth2 rfl) (L.to (D:=Cls w F [tQt gP114 qP114 A114,tQw gP114 gP152 qP152 A152,jC b1]) (sI [2,0,1]) ?_))))))))
 obtain ⟨s18,x19,e20,h⟩:=qt h
 refine L.doesP (A:=[tQt gP114 qP114 A114]) (M:=[tQw gP114 gP152 qP152 A152,jC b1]) rfl (by kernel_rfl) rfl (fun w' hw=>W67 th2.d_ x17 A114 gP114 qP114 w' _ e20 _ hw.lend) ?_
 rintro _ _ ⟨rfl,rfl⟩
 refine L.to (D:=Cls w F [tQt gP114 qP114 A114,tQw gP114 gP152 qP152 A152,jC b1]) hI (L.nil (E.toV2 (stC [] [] (Cls w F [tQt gP114 qP114 A114,jC b1])) 10 (by kernel_rfl) (Sc.past rfl (Sc.stayD (sI [1,0]))) (Sc.atD (sI [0,2])) (V2.r [11,12,13,14,15] (by kernel_rfl) rfl (V2.done (by kernel_rfl) (E.thenN (W.seq (sr (L.r 1 rfl (L.ite h rfl (Y.neq rfl rfl) (fun c22 h=>?_) (fun c22 h=>?_))))))))))
 ·refine ln (W.condT rfl (sr (L.y rfl (Y.build (cells:=qih) rfl (by kernel_rfl)) (L.sv (i:=2) (vs:=tQE) zI rfl rfl rfl rfl rfl nb (L.r 1 rfl (ln (W.ret (E.thenR (E.retR2 rfl (Rv.cellW (i:=2) wo zI rfl rfl rfl) (Rv.tmp rfl) (fun w1 hw=>?_))))))))))
  cases h
  exact ⟨_,_,rfl,⟨rfl,rfl⟩,hw.s [0,1]⟩
 refine ln (W.condF rfl (W.skip (E.thenN (sr (L.r 2 rfl ?_)))))
 obtain ⟨x23,s24,b25,e26,h⟩:=zt h
 refine L.y rfl (Y.does (by kernel_rfl) rfl (fun w' hw=>(qpT s18 a2 w' _ e26).mono (fun _ _ h=>h.1))) (L.r 3 rfl (L.iteB h rfl (Y.extract rfl rfl) (fun c27 h=>?_) (fun c27 h=>?_)))
 ·refine L.r 3 rfl (ln (W.seq (sr (L.r 1 rfl (L.y rfl (Y.not rfl) (ln (W.condF rfl (W.skip (E.thenN (W.seq ?_))))))))))
  refine W.region (L.r 1 rfl ?_)
  obtain ⟨x28,x29,x30,e31,h⟩:=zt h
  refine L.y rfl (Y.does (by kernel_rfl) rfl (fun w' hw=>(qoC s24 w' _ e31).mono (fun _ _ h=>h.1))) (L.r 7 rfl (ln (W.seq (sr (L.r 1 rfl (L.ite h rfl (Y.neq rfl rfl) (fun c32 h=>?_) (fun c32 h=>?_)))))))
  ·refine L.r 4 rfl (ln (W.condT rfl (sr (L.y rfl (Y.build (cells:=qih) rfl (by kernel_rfl)) (L.sv (i:=2) (vs:=tQE) zI rfl rfl rfl rfl rfl nb (L.r 1 rfl (ln (W.ret (E.thenR (E.retR2 rfl (Rv.cellW (i:=2) wo zI rfl rfl rfl) (Rv.tmp rfl) (fun w1 hw=>?_)))))))))))
   cases h
   exact ⟨_,_,rfl,⟨rfl,rfl⟩,hw.s [0,1]⟩
  refine L.r 2 rfl (L.take rfl (L.ite h rfl (Y.gtr rfl rfl) (fun c33 h=>?_) (fun c33 h=>?_)))
  ·refine L.r 1 rfl (ln (W.condT rfl (sr (L.y rfl (Y.build (cells:=qih) rfl (by kernel_rfl)) (L.sv (i:=2) (vs:=tQE) zI rfl rfl rfl rfl rfl nb (L.r 1 rfl (ln (W.ret (E.thenR (E.retR2 rfl (Rv.cellW (i:=2) wo zI rfl rfl rfl) (Rv.tmp rfl) (fun w1 hw=>?_)))))))))))
   cases h
   exact ⟨_,_,rfl,⟨rfl,rfl⟩,hw.s [0,1]⟩
  refine L.r 1 rfl (ln (W.condF rfl (W.skip (E.thenN (sr (L.r 2 rfl (L.y rfl (Y.conv Tryz.underlying178 Tryz.underlying3 rfl) (L.m (V:=fun x34=>.int .i64 x34) h rfl (Y.addM rfl rfl) (fun x34 ex34 h=>(L.m (V:=fun x35=>.int .i64 x35) h rfl (Y.addM rfl rfl) (fun x35 ex35 h=>(L.r 1 rfl (L.nil ?_)))))))))))))
  refine E.thenN (sr (L.r 1 rfl (ln (W.seqJ (fun gs D=>∃ gs1 gx2,gs=[(6,pt b1 0),(10,.int .i64 x23),(11,st gs1),(14,.int .i64 x29),(15,.int .i64 x35),(16,.int .i64 gx2)]∧D=Cls w F [tQt gP114 qP114 A114,tQw gP114 gP152 qP152 A152,jC b1]∧qly x35 x29 x23 gs1 gx2=some r) ?_ ?_))))
  ·refine sr (L.r 2 rfl ?_)
   obtain ⟨s42,e43,h⟩:=qc h
   refine L.y rfl (Y.does (by kernel_rfl) rfl (fun w' hw=>(qo6 ([2]) x23 a2 w' _ e43).mono (fun _ _ h=>h.1))) (L.r 1 rfl (ln (W.block (W.loopJ (fun m gs D=>∃ gs3 gx4,gs=[(0,VP gP152 a0),(1,.int .i64 a1),(6,pt b1 0),(10,.int .i64 x23),(11,st gs3),(14,.int .i64 x29),(15,.int .i64 x35),(16,.int .i64 gx4),(17,st s42)]∧D=Cls w F [tQt gP114 qP114 A114,tQw gP114 gP152 qP152 A152,jC b1]∧qeJ x35 a1 A152 a0 A114 s42 x29 x23 m gs3 gx4=some r) ⟨s24,1,rfl,rfl,h⟩ ⟨rfl,rfl,rfl,rfl,rfl,rfl,rfl,rfl,rfl,trivial⟩ hI ?_))))
   rintro m _ _ ⟨gs3,gx4,rfl,rfl,h⟩
   rcases m with _ | m
   ·rw [qeJ] at h;cases h
   rw [qeJ] at h
   generalize hg1:qeJ x35 a1 A152 a0 A114 s42 x29 x23 m=go1 at h
   rw [qj3] at h
   refine W.seq (sr (L.r 1 rfl (L.y rfl (Y.lenS Tryz.underlying9 rfl) (L.r 1 rfl (L.ite h rfl (Y.lss rfl rfl) (fun c44 h=>?_) (fun c44 h=>?_))))))
   ·refine ln (W.condT rfl (W.skip (E.thenN (W.seq (W.block (W.seq (sr (L.r 2 rfl (L.m (V:=fun x45=>.int .i64 x45) h rfl (Y.addM rfl rfl) (fun x45 ex45 h=>(L.r 1 rfl ?_)))))))))))
    obtain ⟨th46,eth46,h⟩:=qc h
    refine L.to (D:=Cls w F [tQl gP152 a0 gP114 th46,qer gP114 gP152 qP152 A152 a0,tQt gP114 qP114 A114,jC b1]) (fun _ hw=>hw.aO 1 rfl eth46) (L.y rfl (Y.apNil rfl eth46) (L.y rfl (Y.fieldP qb9 rfl) (L.y rfl (Y.loadP (i:=0) ag3 rfl rfl rfl) (L.ite h rfl (Y.geq rfl rfl) (fun c47 h=>?_) (fun c47 h=>?_)))))
    ·refine ln (W.condT rfl (sr (L.y rfl (Y.build (cells:=qih) rfl (by kernel_rfl)) (L.sv (i:=3) (vs:=tQE) zI rfl rfl rfl rfl rfl nb (L.r 1 rfl (ln (W.ret (E.thenR (E.blockR (E.thenR ?_))))))))))
     refine E.KLR (E.blockR (E.KSR (E.to (D:=Cls w F [tQw gP114 gP152 qP152 A152,tQt gP114 qP114 A114,jC b1]) (fun _ hw=>hw.aS [0,1,2,3] eth46 rfl) (E.retR2 rfl (Rv.cellW (i:=2) wo zI rfl rfl rfl) (Rv.tmp rfl) (fun w1 hw=>?_)))))
     cases h
     exact ⟨_,_,rfl,⟨rfl,rfl⟩,hw.s [1,0]⟩
    refine ln (W.condF rfl (W.skip (E.thenN (W.seq (W.drawn2 (k:=18) (stC [[12]] [Cls w F [tQl gP152 a0 gP114 th46,qer gP114 gP152 qP152 A152 a0,tQt gP114 qP114 A114,jC b1]] (Cls w F [tQt gP114 qP114 A114,jC b1])) rfl mixed (fun _ hw=>hw.drew) (Sc.now (by kernel_rfl) hI) (V2.zz [] (Zc.on' (Zc.fin hI) (sI [2,3])) (fun hz61=>(V2.r [0] (by kernel_rfl) rfl (V2.apNil (i:=1) (Nx2.of [] (by kernel_rfl) rfl hz61) rfl rfl rfl eth46 (V2.q 2 [] hz61 rfl rfl (Y.fieldP ky rfl) (V2.zz [12] (Zc.at1 hI) (fun hz62=>(V2.q 3 [12] hz62 rfl rfl (Y.loadP (i:=0) ql3 rfl rfl rfl) (V2.r [4] (by kernel_rfl) rfl ?_))))))))))))))
    refine V2.apNil (i:=5) (Nx2.of [] (by kernel_rfl) rfl hz61) rfl rfl rfl eth46 (V2.q 6 [] hz61 rfl rfl (Y.fieldP yJ rfl) (V2.q 7 [12] hz62 rfl rfl (Y.loadP (i:=0) ag3 rfl rfl rfl) (V2.r [8] (by kernel_rfl) rfl (V2.m (i:=9) (V':=fun x63=>.int .i64 x63) h (Nx2.of [] (by kernel_rfl) rfl hz61) rfl rfl rfl (Y.addM rfl rfl) (fun x63 ex63 h=>(V2.r [10] (by kernel_rfl) rfl (V2.m (i:=11) (V':=fun x64=>.int .i64 x64) h (Nx2.of [] (by kernel_rfl) rfl hz61) rfl rfl rfl (Y.addM rfl rfl) (fun x64 ex64 h=>(V2.eff (i:=12) (by kernel_rfl) rfl (L.to (D:=Cls w F [tQw gP114 gP152 qP152 A152,tQt gP114 qP114 A114,jC b1]) (fun _ hw=>hw.aS [0,1,2,3] eth46 rfl) (L.to (D:=Cls w F [tQt gP114 qP114 A114,tQw gP114 gP152 qP152 A152,jC b1]) (sI [1,0,2]) ?_)))))))))))
    obtain ⟨s65,x66,e67,h⟩:=qt h
    refine L.doesP (A:=[tQt gP114 qP114 A114]) (M:=[tQw gP114 gP152 qP152 A152,jC b1]) rfl (by kernel_rfl) rfl (fun w' hw=>W67 th46.d_ x64 A114 gP114 qP114 w' _ e67 _ hw.lend) ?_
    rintro _ _ ⟨rfl,rfl⟩
    refine L.to (D:=Cls w F [tQt gP114 qP114 A114,tQw gP114 gP152 qP152 A152,jC b1]) hI (L.nil (E.toV2 (stC [] [] (Cls w F [tQt gP114 qP114 A114,jC b1])) 12 (by kernel_rfl) (Sc.past rfl (Sc.stayD hI)) (Sc.atD (sI [0,2])) (V2.r [13,14,15,16,17] (by kernel_rfl) rfl (V2.done (by kernel_rfl) (E.thenN (W.seq (sr (L.r 1 rfl (L.ite h rfl (Y.neq rfl rfl) (fun c69 h=>?_) (fun c69 h=>?_))))))))))
    ·refine L.r 6 rfl (ln (W.condT rfl (sr (L.y rfl (Y.build (cells:=qih) rfl (by kernel_rfl)) (L.sv (i:=2) (vs:=tQE) zI rfl rfl rfl rfl rfl nb (L.r 1 rfl (ln (W.ret (E.thenR (E.blockR ?_))))))))))
     refine E.thenR (E.KLR (E.blockR (E.KSR (E.retR2 rfl (Rv.cellW (i:=2) wo zI rfl rfl rfl) (Rv.tmp rfl) (fun w1 hw=>?_)))))
     cases h
     exact ⟨_,_,rfl,⟨rfl,rfl⟩,hw.s [0,1]⟩
    refine L.r 3 rfl (L.take rfl ?_)
    obtain ⟨b70,e71,h⟩:=qc h
    refine L.y rfl (Y.does (by kernel_rfl) rfl (fun w' hw=>(W74 s65 s42 w' _ e71).mono (fun _ _ h=>h.1))) ?_
    rcases b70 with _ | _
    ·replace h:=zn h
     refine L.take rfl (L.y rfl (Y.not rfl) (L.r 1 rfl (ln (W.condT rfl (sr (L.y rfl (Y.build (cells:=qih) rfl (by kernel_rfl)) (L.sv (i:=2) (vs:=tQE) zI rfl rfl rfl rfl rfl nb (L.r 1 rfl (ln (W.ret ?_))))))))))
     refine E.thenR (E.blockR (E.thenR (E.KLR (E.blockR (E.KSR (E.retR2 rfl (Rv.cellW (i:=2) wo zI rfl rfl rfl) (Rv.tmp rfl) (fun w1 hw=>?_)))))))
     cases h
     exact ⟨_,_,rfl,⟨rfl,rfl⟩,hw.s [0,1]⟩
    replace h:=zm h
    refine L.take rfl (L.y rfl (Y.not rfl) (L.r 1 rfl (ln (W.condF rfl (W.skip (E.thenN (W.region (L.r 3 rfl (L.y rfl (Y.lenS Tryz.underlying9 rfl) (L.m (V:=fun s72=>st s72) h rfl (Y.sliceSL Tryz.underlying9 rfl rfl) (fun s72 es72 h=>(L.m (V:=fun s73=>st s73) h rfl (Y.catM rfl rfl) (fun s73 es73 h=>(L.r 1 rfl ?_))))))))))))))
    exact L.nil (E.blockN (E.thenN (W.region (L.r 1 rfl (L.m (V:=fun x74=>.int .i64 x74) h rfl (Y.addM rfl rfl) (fun x74 ex74 h=>(L.r 1 rfl (L.nil (E.aJ ⟨s73,x74,rfl,rfl,by rw [hg1];exact h⟩ hI)))))))))
   exact ln (W.condF rfl (W.exit (E.thenX (E.KLX (E.blockX (E.jJ ⟨gs3,gx4,rfl,rfl,h⟩ hI))))))
  rintro _ _ ⟨gs1,gx2,rfl,rfl,h⟩
  rw [qly] at h
  refine sr (L.r 2 rfl (L.m (V:=fun s36=>st s36) h rfl (Y.sliceSH Tryz.underlying9 rfl rfl) (fun s36 es36 h=>?_)))
  obtain ⟨s37,x38,e39,h⟩:=qt h
  refine L.y rfl (Y.does (by kernel_rfl) rfl (fun w' hw=>(qpS s36 w' _ e39).mono (fun _ _ h=>h.1))) (L.r 5 rfl (ln (W.seq (sr (L.r 1 rfl (L.ite h rfl (Y.neq rfl rfl) (fun c40 h=>?_) (fun c40 h=>?_)))))))
  ·refine ln (W.condT rfl (sr (L.y rfl (Y.build (cells:=qih) rfl (by kernel_rfl)) (L.sv (i:=2) (vs:=tQE) zI rfl rfl rfl rfl rfl nb (L.r 1 rfl (ln (W.ret (E.thenR (E.retR2 rfl (Rv.cellW (i:=2) wo zI rfl rfl rfl) (Rv.tmp rfl) (fun w1 hw=>?_))))))))))
   cases h
   exact ⟨_,_,rfl,⟨rfl,rfl⟩,hw.s [0,1]⟩
  refine ln (W.condF rfl (W.skip (E.thenN (sr (L.r 3 rfl (L.m (V:=fun s41=>st s41) h rfl (Y.sliceSL Tryz.underlying9 rfl rfl) (fun s41 es41 h=>(L.r 1 rfl (L.y rfl (Y.build (cells:=#[.int .i64 x23,st s41,.int .i64 gx2]) rfl (by kernel_rfl)) (L.sv (i:=2) (vs:=[.int .i64 x23,st s41,.int .i64 gx2]) zI rfl rfl rfl rfl rfl nb (L.r 1 rfl (L.nil ?_))))))))))))
  refine E.thenN (W.ret (E.retR2 rfl (Rv.cellW (i:=2) wo zI rfl rfl rfl) (Rv.tmp rfl) (fun w1 hw=>?_)))
  cases h
  exact ⟨_,_,rfl,⟨rfl,rfl⟩,hw.s [0,1]⟩
 refine L.r 3 rfl (ln (W.seq (sr (L.r 1 rfl (L.y rfl (Y.not rfl) (ln (W.condT rfl (sr (L.y rfl (Y.build (cells:=qih) rfl (by kernel_rfl)) ?_)))))))))
 refine L.sv (i:=2) (vs:=tQE) zI rfl rfl rfl rfl rfl nb (L.r 1 rfl (ln (W.ret (E.thenR (E.retR2 rfl (Rv.cellW (i:=2) wo zI rfl rfl rfl) (Rv.tmp rfl) (fun w1 hw=>?_))))))
 cases h
 exact ⟨_,_,rfl,⟨rfl,rfl⟩,hw.s [0,1]⟩
set_option maxRecDepth 100000 in
set_option maxHeartbeats 8000000 in
theorem qo5 (a0:Int) (A114:(List TDisk)) (gP114:Nat→Nat) (qP114:Nat→List Value) (w:World) (r:((List TDisk)×Int)) (h:qkh a0 A114=some r) (F:List Nat) (hc0:Cls w F [tQt gP114 qP114 A114] w):zu Tryz.prog 135 [VP gP114 a0] F w fun u m=>∃ Q114,u=.int .i64 r.2∧m=[qS gP114 Q114 r.1 []]:=by
 rw [qkh] at h
 refine body (n:=20) Tryz.func135 rfl rfl rfl hc0 (sr (L.r 1 rfl (ln (W.seq (sr (L.r 1 rfl ?_))))))
 obtain ⟨th1,eth1,h⟩:=qc h
 refine L.to (D:=Cls w F (tQR gP114 a0 qP114 th1 A114)) (fun _ hw=>hw.aO 0 rfl eth1) (L.y rfl (Y.apNil rfl eth1) (L.y rfl (Y.fieldP kA rfl) (L.y rfl (Y.loadP (i:=0) ag3 rfl rfl rfl) (L.ite h rfl (Y.eql rfl rfl) (fun c2 h=>?_) (fun c2 h=>?_)))))
 ·refine ln (W.condT rfl (sr (L.r 1 rfl (ln (W.ret (E.thenR (E.to (D:=Cls w F [tQt gP114 qP114 A114]) (fun _ hw=>hw.aS [0,1,2,3,4] eth1 rfl) (E.ret1 rfl rfl (fun w1 hw=>?_)))))))))
  cases h
  exact ⟨_,_,rfl,⟨_,rfl,rfl⟩,hw⟩
 refine ln (W.condF rfl (W.skip (E.thenN (W.seq (sr (L.r 1 rfl (L.y rfl (Y.apNil rfl eth1) (L.y rfl (Y.fieldP kA rfl) (L.y rfl (Y.loadP (i:=0) ag3 rfl rfl rfl) (L.ite h rfl (Y.gtr rfl rfl) (fun c3 h=>?_) (fun c3 h=>?_)))))))))))
 ·refine ln (W.condT rfl (W.region (L.r 1 rfl (L.y rfl (Y.apNil rfl eth1) (L.y rfl (Y.fieldP kA rfl) (L.y rfl (Y.loadP (i:=0) ag3 rfl rfl rfl) (L.m (V:=fun x4=>.int .i64 x4) h rfl (Y.subM rfl rfl) (fun x4 ex4 h=>(L.y rfl (Y.apNil rfl eth1) (L.y rfl (Y.fieldP kA rfl) (L.sv (i:=0) (vs:=(jX x4)) sz3 rfl rfl rfl rfl rfl nb (ln ?_))))))))))))
  refine sr (L.r 1 rfl (ln (W.ret ?_)))
  obtain ⟨l5,el5,h⟩:=qc h
  refine E.aC (row:=TDisk.rowA) (sub:=TDisk.subA) (e:=114) (g:=gP114) (gh:=qP114) (vs':=[(tQi qP114 a0),(tQh qP114 a0),(gv (qP114 a0.toNat) 2)]) (m':=[]) [0,1,2,3,4] el5 rfl ?_
  intro q6
  refine E.to (D:=Cls w F [tQt gP114 q6 l5]) hI (E.ret1 rfl rfl (fun w1 hw=>?_))
  cases h
  exact ⟨_,_,rfl,⟨_,rfl,rfl⟩,hw⟩
 refine ln (W.condF rfl (W.skip (E.thenN (sr (L.r 1 rfl (ln (W.ret (E.to (D:=Cls w F [tQt gP114 qP114 A114]) (fun _ hw=>hw.aS [0,1,2,3,4] eth1 rfl) (E.ret1 rfl rfl (fun w1 hw=>?_))))))))))
 cases h
 exact ⟨_,_,rfl,⟨_,rfl,rfl⟩,hw⟩
set_option maxRecDepth 100000 in
set_option maxHeartbeats 8000000 in
theorem W91 (a0:Int) (a1:Int) (a2:(List UInt8)) (A114:(List TDisk)) (gP114:Nat→Nat) (qP114:Nat→List Value) (w:World) (r:((List TDisk)×Int)) (h:M91 a0 a1 a2 A114=some r) (F:List Nat) (hc0:Cls w F [tQt gP114 qP114 A114] w):zu Tryz.prog 91 [VP gP114 a0,.int .i64 a1,st a2] F w fun u m=>∃ Q114,u=.int .i64 r.2∧m=[qS gP114 Q114 r.1 []]:=by
 rw [M91] at h
 refine body (n:=52) Tryz.func91 rfl rfl rfl hc0 (sr (L.r 1 rfl (ln (W.seq (sr (L.r 1 rfl (L.ite h rfl (Y.lss rfl rfl) (fun c1 h=>?_) (fun c1 h=>?_))))))))
 ·refine L.r 9 rfl (ln (W.condT rfl (sr (L.r 1 rfl (ln (W.ret (E.thenR (E.ret1 rfl rfl (fun w1 hw=>?_)))))))))
  cases h
  exact ⟨_,_,rfl,⟨_,rfl,rfl⟩,hw⟩
 refine L.r 3 rfl (L.take rfl ?_)
 obtain ⟨th2,eth2,h⟩:=qc h
 refine L.to (D:=Cls w F (tQR gP114 a0 qP114 th2 A114)) (fun _ hw=>hw.aO 0 rfl eth2) (L.y rfl (Y.apNil rfl eth2) (L.take rfl (L.y rfl (Y.fieldP xr rfl) (L.take rfl (L.y rfl (Y.loadP (i:=0) kT rfl rfl rfl) (L.take rfl (L.y rfl (Y.lenM (g:=SR) (l:=th2.safe_) Tryz.underlying111 rfl (fun w hw=>As.at_ (hw.get (i:=1) rfl))) (L.take rfl (L.ite h rfl (Y.geq rfl rfl) (fun c3 h=>?_) (fun c3 h=>?_))))))))))
 ·refine L.r 1 rfl (ln (W.condT rfl (sr (L.r 1 rfl (ln (W.ret (E.thenR (E.to (D:=Cls w F [tQt gP114 qP114 A114]) (fun _ hw=>hw.aS [0,1,2,3,4] eth2 rfl) (E.ret1 rfl rfl (fun w1 hw=>?_))))))))))
  cases h
  exact ⟨_,_,rfl,⟨_,rfl,rfl⟩,hw⟩
 refine L.r 1 rfl (ln (W.condF rfl (W.skip (E.thenN (W.seq (sr (L.r 1 rfl (L.y rfl (Y.lenS Tryz.underlying9 rfl) (L.ite h rfl (Y.gtr rfl rfl) (fun c4 h=>?_) (fun c4 h=>?_))))))))))
 ·refine ln (W.condT rfl (sr (L.r 1 rfl (ln (W.ret (E.thenR (E.to (D:=Cls w F [tQt gP114 qP114 A114]) (fun _ hw=>hw.aS [0,1,2,3,4] eth2 rfl) (E.ret1 rfl rfl (fun w1 hw=>?_)))))))))
  cases h
  exact ⟨_,_,rfl,⟨_,rfl,rfl⟩,hw⟩
 refine ln (W.condF rfl (W.skip (E.thenN (W.seq (sr (L.r 1 rfl (L.to (D:=Cls w F [tQt gP114 qP114 A114]) (fun _ hw=>hw.aS [0,1,2,3,4] eth2 rfl) ?_)))))))
 obtain ⟨l5,x6,e7,h⟩:=qt h
 refine L.doesP (A:=[tQt gP114 qP114 A114]) (M:=[]) rfl (by kernel_rfl) rfl (fun w' hw=>qo5 a0 A114 gP114 qP114 w' _ e7 _ hw.lend) ?_
 rintro _ _ ⟨q8,rfl,rfl⟩
 refine L.to (D:=Cls w F [tQt gP114 q8 l5]) hI (L.r 1 rfl (nsr (L.r 1 rfl (L.ite h rfl (Y.neq rfl rfl) (fun c9 h=>?_) (fun c9 h=>?_)))))
 ·refine ln (W.condT rfl (sr (L.r 2 rfl (ln (W.ret (E.thenR (E.ret1 rfl rfl (fun w1 hw=>?_))))))))
  cases h
  exact ⟨_,_,rfl,⟨_,rfl,rfl⟩,hw⟩
 refine ln (W.condF rfl (W.skip (E.thenN (sr (L.r 2 rfl (L.y rfl (Y.lenS Tryz.underlying9 rfl) (L.m (V:=fun x10=>.int .i64 x10) h rfl (Y.subM rfl rfl) (fun x10 ex10 h=>?_))))))))
 obtain ⟨s11,e12,h⟩:=qc h
 refine L.y rfl (Y.does (by kernel_rfl) rfl (fun w' hw=>(qbC ([0]) x10 w' _ e12).mono (fun _ _ h=>h.1))) (L.m (V:=fun s13=>st s13) h rfl (Y.catM rfl rfl) (fun s13 es13 h=>(L.r 1 rfl (nsr (L.r 1 rfl ?_)))))
 obtain ⟨th14,eth14,h⟩:=qc h
 refine L.to (D:=Cls w F (tQR gP114 a0 q8 th14 l5)) (fun _ hw=>hw.aO 0 rfl eth14) (L.y rfl (Y.apNil rfl eth14) (L.y rfl (Y.fieldP vS rfl) (L.y rfl (Y.loadP (i:=0) kT rfl rfl rfl) (L.r 2 rfl (L.m (V:=fun _=>el (tQh q8 a0) (zG a1)) h rfl (Y.indexM (g:=SR) (l:=th14.seen_) Tryz.underlying111 sz9 rfl rfl (fun w hw=>As.at_ (hw.get (i:=2) rfl))) (fun x15 ex15 h=>(L.storeSlM (q:=2) (row:=SR) (vs:=[st s13]) (j:=0) (u1:=s13) h sz9 rfl rfl rfl rfl rfl (qT rfl za) rfl ex15 rfl rfl ?_)))))))
 intro l16 el16 h
 refine nsr (L.r 2 rfl (L.y rfl (Y.apNil rfl eth14) (L.y rfl (Y.fieldP vR rfl) (L.y rfl (Y.loadP (i:=0) qm8 rfl rfl rfl) (L.r 2 rfl (L.y rfl (Y.build (cells:=#[.int .i64 a1,st s13]) rfl (by kernel_rfl)) (L.litAgg rfl Tryz.underlying112 qmW rfl rfl rfl ?_)))))))
 intro b17
 refine L.appM (i:=4) (g:=Twrite.row) (l:=th14.late_) (more:=[(⟨a1,s13⟩:Twrite)]) h rfl Tryz.underlying112 qmW rfl rfl rfl (fun w hw=>As.at_ (hw.get (i:=0) rfl)) (qaN _) rfl ?_
 intro v18 l19 el19 h
 refine L.y rfl (Y.apNil rfl eth14) (L.y rfl (Y.fieldP vR rfl) (L.storeV (i:=2) qkz rfl rfl (fun _ hw=>(As.at_ (hw.get (i:=0) rfl)).one) rfl nb (nsr (L.r 1 rfl (ln (W.ret ?_))))))
 obtain ⟨l20,el20,h⟩:=qc h
 refine E.aC (row:=TDisk.rowA) (sub:=TDisk.subA) (e:=114) (g:=gP114) (gh:=q8) (vs':=[(tQi q8 a0),(tQh q8 a0),v18]) (m':=[.sl (sv b17 1) 116 2 (([(⟨a1,s13⟩:Twrite)]).map Twrite.row)]) [2,3,4,0,5,1] el20 rfl ?_
 intro q21
 refine E.to (D:=Cls w F [tQt gP114 q21 l20,.sl (sv b17 1) 116 2 (([(⟨a1,s13⟩:Twrite)]).map Twrite.row)]) hI (E.ret1 rfl rfl (fun w1 hw=>?_))
 cases h
 exact ⟨_,_,rfl,⟨_,rfl,rfl⟩,hw.s [0]⟩
set_option maxRecDepth 100000 in
set_option maxHeartbeats 8000000 in
theorem W92 (a0:Int) (a1:Int) (A152:(List TLog)) (gP114:Nat→Nat) (gP152:Nat→Nat) (qP152:Nat→List Value) (w:World) (r:((List TLog)×Int)) (h:M92 a0 a1 A152=some r) (F:List Nat) (hc0:Cls w F [tQw gP114 gP152 qP152 A152] w):zu Tryz.prog 92 [VP gP152 a0,.int .i64 a1] F w fun u m=>∃ Q152,u=.int .i64 r.2∧m=[qY gP114 gP152 Q152 r.1 []]:=by
 rw [M92] at h
 refine body (n:=17) Tryz.func92 rfl rfl rfl hc0 (sr (L.r 1 rfl (nsr (L.r 2 rfl ?_))))
 obtain ⟨th1,eth1,h⟩:=qc h
 refine L.to (D:=Cls w F [tQl gP152 a0 gP114 th1,qer gP114 gP152 qP152 A152 a0]) (fun _ hw=>hw.aO 0 rfl eth1) (L.y rfl (Y.apNil rfl eth1) (L.y rfl (Y.fieldP vP rfl) (L.iteB h rfl (Y.loadP (i:=0) ag4 rfl rfl rfl) (fun c2 h=>?_) (fun c2 h=>?_))))
 ·refine L.r 4 rfl (L.y rfl (Y.apNil rfl eth1) (L.y rfl (Y.fieldP vP rfl) (L.sv (i:=0) (vs:=[.bool true]) sz4 rfl rfl rfl rfl rfl nb (nsr (L.r 2 rfl (ln (W.ret ?_)))))))
  obtain ⟨l3,el3,h⟩:=qc h
  refine E.aC (row:=TLog.rowA gP114) (sub:=TLog.subA gP114) (e:=152) (g:=gP152) (gh:=qP152) (vs':=[]) (m':=[]) [0,1] el3 rfl ?_
  intro q4
  refine E.to (D:=Cls w F [tQw gP114 gP152 q4 l3]) hI (E.ret1 rfl rfl (fun w1 hw=>?_))
  cases h
  exact ⟨_,_,rfl,⟨_,rfl,rfl⟩,hw⟩
 refine L.r 2 rfl (L.take rfl (L.y rfl (Y.neq rfl rfl) (L.r 1 rfl (L.y rfl (Y.apNil rfl eth1) (L.y rfl (Y.fieldP vP rfl) (L.sv (i:=0) (vs:=[.bool (decide (a1≠0))]) sz4 rfl rfl rfl rfl rfl nb (nsr (L.r 2 rfl (ln ?_)))))))))
 refine W.ret ?_
 obtain ⟨l5,el5,h⟩:=qc h
 refine E.aC (row:=TLog.rowA gP114) (sub:=TLog.subA gP114) (e:=152) (g:=gP152) (gh:=qP152) (vs':=[]) (m':=[]) [0,1] el5 rfl ?_
 intro q6
 refine E.to (D:=Cls w F [tQw gP114 gP152 q6 l5]) hI (E.ret1 rfl rfl (fun w1 hw=>?_))
 cases h
 exact ⟨_,_,rfl,⟨_,rfl,rfl⟩,hw⟩
set_option maxRecDepth 100000 in
set_option maxHeartbeats 8000000 in
theorem W93 (a0:Int) (A114:(List TDisk)) (gP114:Nat→Nat) (qP114:Nat→List Value) (w:World) (r:((List TDisk)×Int)) (h:M93 a0 A114=some r) (F:List Nat) (hc0:Cls w F [tQt gP114 qP114 A114] w):zu Tryz.prog 93 [VP gP114 a0] F w fun u m=>∃ Q114,u=.int .i64 r.2∧m=[qS gP114 Q114 r.1 []]:=by
 rw [M93] at h
 refine body (n:=21) Tryz.func93 rfl rfl rfl hc0 (sr (L.r 1 rfl (ln (W.seq (sr (L.r 1 rfl ?_))))))
 obtain ⟨l1,x2,e3,h⟩:=qt h
 refine L.doesP (A:=[tQt gP114 qP114 A114]) (M:=[]) rfl (by kernel_rfl) rfl (fun w' hw=>qo5 a0 A114 gP114 qP114 w' _ e3 _ hw.lend) ?_
 rintro _ _ ⟨q4,rfl,rfl⟩
 refine L.to (D:=Cls w F [tQt gP114 q4 l1]) hI (L.r 1 rfl (nsr (L.r 1 rfl (L.ite h rfl (Y.neq rfl rfl) (fun c5 h=>?_) (fun c5 h=>?_)))))
 ·refine ln (W.condT rfl (sr (L.r 2 rfl (ln (W.ret (E.thenR (E.ret1 rfl rfl (fun w1 hw=>?_))))))))
  cases h
  exact ⟨_,_,rfl,⟨_,rfl,rfl⟩,hw⟩
 refine ln (W.condF rfl (W.skip (E.thenN (W.seq ?_))))
 obtain ⟨th6,eth6,h⟩:=qc h
 refine W.to (D:=Cls w F (tQR gP114 a0 q4 th6 l1)) (fun _ hw=>hw.aO 0 rfl eth6) (W.drawn2 (k:=9) (stC [[8]] [Cls w F (tQR gP114 a0 q4 th6 l1)] (Cls w F (qlR gP114 a0 q4 th6 l1))) rfl mixed (fun _ hw=>hw.drew) (Sc.now (by kernel_rfl) hI) (V2.zz [] (Zc.on' (Zc.fin hI) (sI [0,2,3,4])) (fun hz8=>(V2.r [0] (by kernel_rfl) rfl (V2.apNil (i:=1) (Nx2.of [] (by kernel_rfl) rfl hz8) rfl rfl rfl eth6 (V2.q 2 [] hz8 rfl rfl (Y.fieldP xr rfl) (V2.q 3 [] hz8 rfl rfl (Y.loadP (i:=0) kT rfl rfl rfl) (V2.r [4] (by kernel_rfl) rfl (V2.apNil (i:=5) (Nx2.of [] (by kernel_rfl) rfl hz8) rfl rfl rfl eth6 (V2.q 6 [] hz8 rfl rfl (Y.fieldP vS rfl) (V2.q 7 [] hz8 rfl rfl (Y.loadP (i:=0) kT rfl rfl rfl) (V2.eff (i:=8) (by kernel_rfl) rfl (L.copyMD (i:=1) (g:=SR) (l:=th6.safe_) (s:=th6.seen_) rfl Tryz.underlying111 eL9 rfl rfl rfl (fun w hw=>As.at_ (hw.get (i:=2) rfl)) (qp _) (fun _=>(L.nil ?_)))))))))))))))
 refine E.toV2 (stC [] [] (Cls w F (qlR gP114 a0 q4 th6 l1))) 8 (by kernel_rfl) (Sc.past rfl (Sc.stayD hI)) (Sc.atD (sI [0,2,3,4])) (V2.done (by kernel_rfl) (E.thenN (sr (L.r 1 rfl (L.y rfl (Y.apNil rfl eth6) (L.y rfl (Y.fieldP vR rfl) (L.sv (i:=0) (vs:=[tQm]) qkz rfl rfl rfl rfl rfl nb (nsr (L.r 1 rfl ?_)))))))))
 refine ln (W.ret (E.nilSl 116 2 ?_))
 obtain ⟨l9,el9,h⟩:=qc h
 refine E.aC (row:=TDisk.rowA) (sub:=TDisk.subA) (e:=114) (g:=gP114) (gh:=q4) (vs':=[(tQi q4 a0),(tQh q4 a0),(tQm)]) (m':=[tQx q4 a0 th6]) [1,2,3,0,5,4] el9 rfl ?_
 intro q10
 refine E.to (D:=Cls w F [tQt gP114 q10 l9,tQx q4 a0 th6]) hI (E.ret1 rfl rfl (fun w1 hw=>?_))
 cases h
 exact ⟨_,_,rfl,⟨_,rfl,rfl⟩,hw.s [0]⟩
set_option maxRecDepth 100000 in
set_option maxHeartbeats 8000000 in
theorem W70 (a0:Int) (A114:(List TDisk)) (A152:(List TLog)) (gP114:Nat→Nat) (gP152:Nat→Nat) (qP114:Nat→List Value) (qP152:Nat→List Value) (w:World) (r:((List TDisk)×(List TLog)×Int)) (h:M70 a0 A114 A152=some r) (F:List Nat) (hc0:Cls w F (zd gP114 qP114 A114 gP152 qP152 A152) w):zu Tryz.prog 70 [VP gP152 a0] F w fun u m=>∃ Q114 Q152,u=.int .i64 r.2.2∧m=[qS gP114 Q114 r.1 [],qY gP114 gP152 Q152 r.2.1 []]:=by
 rw [M70] at h
 refine body (n:=47) Tryz.func70 rfl rfl rfl hc0 (sr (L.r 1 rfl (ln (W.seq (sr (L.r 1 rfl ?_))))))
 obtain ⟨th1,eth1,h⟩:=qc h
 refine L.to (D:=qjB w F gP152 a0 gP114 th1 qP152 A152 qP114 A114) (fun _ hw=>hw.aO 1 rfl eth1) (L.y rfl (Y.apNil rfl eth1) (L.y rfl (Y.fieldP ju rfl) (L.y rfl (Y.loadP (i:=0) ag3 rfl rfl rfl) (L.ite h rfl (Y.geq rfl rfl) (fun c2 h=>?_) (fun c2 h=>?_)))))
 ·refine ln (W.condT rfl (sr (L.r 1 rfl (ln (W.ret (E.thenR (E.to (D:=qbG w F gP114 gP152 qP152 A152 qP114 A114) (fun _ hw=>hw.aS [0,1,2] eth1 rfl) (E.ret1 rfl rfl (fun w1 hw=>?_)))))))))
  cases h
  exact ⟨_,_,rfl,⟨_,_,rfl,rfl⟩,hw.s [1,0]⟩
 refine ln (W.condF rfl (W.skip (E.thenN (W.seq (W.seq (W.drawn2 (k:=16) (stC [[14]] [qjB w F gP152 a0 gP114 th1 qP152 A152 qP114 A114] (Cls w F [])) rfl mixed (fun _ hw=>hw.drew) (Sc.now (by kernel_rfl) hI) (V2.zz [] (Zc.on' (Zc.fin hI) (sI [])) (fun hz29=>(V2.r [0] (by kernel_rfl) rfl (V2.apNil (i:=1) (Nx2.of [] (by kernel_rfl) rfl hz29) rfl rfl rfl eth1 (V2.q 2 [] hz29 rfl rfl (Y.fieldP ky rfl) (V2.zz [14] (Zc.at1 hI) (fun hz30=>(V2.q 3 [14] hz30 rfl rfl (Y.loadP (i:=0) ql3 rfl rfl rfl) ?_))))))))))))))
 refine V2.r [4] (by kernel_rfl) rfl (V2.apNil (i:=5) (Nx2.of [] (by kernel_rfl) rfl hz29) rfl rfl rfl eth1 (V2.q 6 [] hz29 rfl rfl (Y.fieldP yJ rfl) (V2.q 7 [14] hz30 rfl rfl (Y.loadP (i:=0) ag3 rfl rfl rfl) (V2.r [8] (by kernel_rfl) rfl (V2.apNil (i:=9) (Nx2.of [] (by kernel_rfl) rfl hz29) rfl rfl rfl eth1 (V2.q 10 [] hz29 rfl rfl (Y.fieldP ju rfl) (V2.q 11 [14] hz30 rfl rfl (Y.loadP (i:=0) ag3 rfl rfl rfl) (V2.m (i:=12) (V':=fun x31=>.int .i64 x31) h (Nx2.of [] (by kernel_rfl) rfl hz29) rfl rfl rfl (Y.addM rfl rfl) (fun x31 ex31 h=>(V2.eff (i:=13) (by kernel_rfl) rfl ?_))))))))))
 obtain ⟨s32,e33,h⟩:=qc h
 refine L.y rfl (Y.does (by kernel_rfl) rfl (fun w' hw=>(qo7 x31 w' _ e33).mono (fun _ _ h=>h.1))) (L.nil (E.toV2 (stC [[14]] [qjB w F gP152 a0 gP114 th1 qP152 A152 qP114 A114] (Cls w F [])) 13 (by kernel_rfl) (Sc.stay hI (Sc.stayD hI)) (Sc.now (by kernel_rfl) hI) (V2.eff (i:=14) (by kernel_rfl) rfl (L.to (D:=qbG w F gP114 gP152 qP152 A152 qP114 A114) (fun _ hw=>hw.aS [0,1,2] eth1 rfl) (L.to (D:=Cls w F (zd gP114 qP114 A114 gP152 qP152 A152)) (sI [1,0]) ?_)))))
 obtain ⟨l34,x35,e36,h⟩:=qt h
 refine L.doesP (A:=[tQt gP114 qP114 A114]) (M:=[tQw gP114 gP152 qP152 A152]) rfl (by kernel_rfl) rfl (fun w' hw=>W91 th1.d_ th1.from_ s32 A114 gP114 qP114 w' _ e36 _ hw.lend) ?_
 rintro _ _ ⟨q37,rfl,rfl⟩
 refine L.to (D:=Cls w F (zd gP114 q37 l34 gP152 qP152 A152)) hI (L.nil (E.toV2 (stC [] [] (Cls w F [])) 14 (by kernel_rfl) (Sc.past rfl (Sc.stayD hI)) (Sc.atD (sI [])) (V2.r [15] (by kernel_rfl) rfl (V2.done (by kernel_rfl) (E.thenN (sr (L.r 1 rfl (L.ite h rfl (Y.neq rfl rfl) (fun c39 h=>?_) (fun c39 h=>?_)))))))))
 ·refine ln (W.condT rfl (sr (L.r 2 rfl (L.to (D:=qbG w F gP114 gP152 qP152 A152 q37 l34) (sI [1,0]) ?_))))
  obtain ⟨l40,x41,e42,h⟩:=qt h
  refine L.doesP (A:=[tQw gP114 gP152 qP152 A152]) (M:=[tQt gP114 q37 l34]) rfl qnt rfl (fun w' hw=>W92 a0 x35 A152 gP114 gP152 qP152 w' _ e42 _ hw.lend) ?_
  rintro _ _ ⟨q43,rfl,rfl⟩
  refine L.to (D:=qbG w F gP114 gP152 q43 l40 q37 l34) hI (L.r 1 rfl (ln (W.ret (E.thenR (E.ret1 rfl rfl (fun w1 hw=>?_))))))
  cases h
  exact ⟨_,_,rfl,⟨_,_,rfl,rfl⟩,hw.s [1,0]⟩
 refine ln (W.condF rfl (W.skip (E.thenN (W.seq (sr (L.r 1 rfl ?_))))))
 obtain ⟨th44,eth44,h⟩:=qc h
 refine L.to (D:=qjB w F gP152 a0 gP114 th44 qP152 A152 q37 l34) (fun _ hw=>hw.aO 1 rfl eth44) (L.y rfl (Y.apNil rfl eth44) (L.y rfl (Y.fieldP ky rfl) (L.y rfl (Y.loadP (i:=0) ql3 rfl rfl rfl) (L.to (D:=qbG w F gP114 gP152 qP152 A152 q37 l34) (fun _ hw=>hw.aS [0,1,2] eth44 rfl) (L.to (D:=Cls w F (zd gP114 q37 l34 gP152 qP152 A152)) (sI [1,0]) ?_)))))
 obtain ⟨l45,x46,e47,h⟩:=qt h
 refine L.doesP (A:=[tQt gP114 q37 l34]) (M:=[tQw gP114 gP152 qP152 A152]) rfl (by kernel_rfl) rfl (fun w' hw=>W93 th44.d_ l34 gP114 q37 w' _ e47 _ hw.lend) ?_
 rintro _ _ ⟨q48,rfl,rfl⟩
 refine L.to (D:=Cls w F (zd gP114 q48 l45 gP152 qP152 A152)) hI (L.r 1 rfl (nsr (L.r 1 rfl (L.ite h rfl (Y.neq rfl rfl) (fun c49 h=>?_) (fun c49 h=>?_)))))
 ·refine ln (W.condT rfl (sr (L.r 2 rfl (L.to (D:=qbG w F gP114 gP152 qP152 A152 q48 l45) (sI [1,0]) ?_))))
  obtain ⟨l50,x51,e52,h⟩:=qt h
  refine L.doesP (A:=[tQw gP114 gP152 qP152 A152]) (M:=[tQt gP114 q48 l45]) rfl qnt rfl (fun w' hw=>W92 a0 x46 A152 gP114 gP152 qP152 w' _ e52 _ hw.lend) ?_
  rintro _ _ ⟨q53,rfl,rfl⟩
  refine L.to (D:=qbG w F gP114 gP152 q53 l50 q48 l45) hI (L.r 1 rfl (ln (W.ret (E.thenR (E.ret1 rfl rfl (fun w1 hw=>?_))))))
  cases h
  exact ⟨_,_,rfl,⟨_,_,rfl,rfl⟩,hw.s [1,0]⟩
 refine ln (W.condF rfl (W.skip (E.thenN (sr (L.r 1 rfl ?_)))))
 obtain ⟨th54,eth54,h⟩:=qc h
 refine L.to (D:=qjB w F gP152 a0 gP114 th54 qP152 A152 q48 l45) (fun _ hw=>hw.aO 1 rfl eth54) (L.y rfl (Y.apNil rfl eth54) (L.y rfl (Y.fieldP ju rfl) (L.y rfl (Y.loadP (i:=0) ag3 rfl rfl rfl) (L.m (V:=fun x55=>.int .i64 x55) h rfl (Y.addM rfl rfl) (fun x55 ex55 h=>(L.y rfl (Y.apNil rfl eth54) (L.y rfl (Y.fieldP ju rfl) (L.sv (i:=0) (vs:=(jX x55)) sz3 rfl rfl rfl rfl rfl nb (nsr (L.r 1 rfl (L.nil ?_)))))))))))
 refine E.thenN (W.ret ?_)
 obtain ⟨l56,el56,h⟩:=qc h
 refine E.aC (row:=TLog.rowA gP114) (sub:=TLog.subA gP114) (e:=152) (g:=gP152) (gh:=qP152) (vs':=[]) (m':=[tQt gP114 q48 l45]) [0,1,2] el56 rfl ?_
 intro q57
 refine E.to (D:=qbG w F gP114 gP152 q57 l56 q48 l45) hI (E.ret1 rfl rfl (fun w1 hw=>?_))
 cases h
 exact ⟨_,_,rfl,⟨_,_,rfl,rfl⟩,hw.s [1,0]⟩
set_option maxRecDepth 100000 in
set_option maxHeartbeats 8000000 in
theorem W36 (a0:Int) (a1:Int) (a2:Int) (A114:(List TDisk)) (A152:(List TLog)) (gP114:Nat→Nat) (gP152:Nat→Nat) (qP114:Nat→List Value) (qP152:Nat→List Value) (w:World) (r:((List TDisk)×(List TLog)×Int×(List (List UInt8))×Int)) (h:M36 a0 a1 a2 A114 A152=some r) (F:List Nat) (hc0:Cls w F (zd gP114 qP114 A114 gP152 qP152 A152) w):zu Tryz.prog 36 [VP gP114 a0,.int .i64 a1,.int .i64 a2] F w fun u m=>∃ G152 Q114 Q152 v1,Gr gP152 A152.length G152 r.2.1.length∧u=.tuple #[VP G152 r.2.2.1,v1,.int .i64 r.2.2.2.2]∧m=[qS gP114 Q114 r.1 [],qY gP114 G152 Q152 r.2.1 [],.sl v1 9 1 (r.2.2.2.1.map SR)]:=by
 rw [M36] at h
 obtain ⟨g152,hg152⟩:∃ g,g=gP152:=⟨_,rfl⟩
 have hGr152:Gr g152 A152.length gP152 A152.length:=hg152 ▸ Gr.refl _ _
 refine body (n:=122) Tryz.func36 rfl rfl rfl hc0 (sr (L.r 3 rfl (ln (W.seq (sr (L.cutJ 6 (fun gs D=>∃ gb1,gs=[(0,VP gP114 a0),(1,.int .i64 a1),(2,.int .i64 a2),(22,.bool gb1)]∧D=Cls w F (zd gP114 qP114 A114 gP152 qP152 A152)∧qhm A114 A152 a0 a1 a2 gb1=some r) ?_ ?_))))))
 ·refine L.r 1 rfl (L.ite h rfl (Y.lss rfl rfl) (fun c85 h=>?_) (fun c85 h=>?_))
  ·exact L.r 4 rfl (L.nil (E.jJ ⟨true,rfl,rfl,h⟩ hI))
  refine L.r 2 rfl (L.take rfl (L.ite h rfl (Y.lss rfl rfl) (fun c86 h=>?_) (fun c86 h=>?_)))
  ·exact L.r 1 rfl (L.nil (E.jJ ⟨true,rfl,rfl,h⟩ hI))
  exact L.r 1 rfl (L.nil (E.jJ ⟨false,rfl,rfl,h⟩ hI))
 rintro _ _ ⟨gb1,rfl,rfl,h⟩
 rw [qhm] at h
 rcases gb1 with _ | _
 ·replace h:=zn h
  refine L.r 3 rfl (L.take rfl ?_)
  obtain ⟨x1,e2,h⟩:=qc h
  refine L.doesP (A:=[tQt gP114 qP114 A114]) (M:=[tQw gP114 gP152 qP152 A152]) rfl (by kernel_rfl) rfl (fun w' hw=>W35 a0 A114 gP114 qP114 w' _ e2 _ hw.lend) ?_
  rintro _ _ ⟨rfl,rfl⟩
  refine L.to (D:=Cls w F (zd gP114 qP114 A114 gP152 qP152 A152)) hI (L.take rfl (L.ite h rfl (Y.gtr rfl rfl) (fun c3 h=>?_) (fun c3 h=>?_)))
  ·refine L.r 9 rfl (ln (W.condT rfl (sr (L.r 3 rfl (ln (W.ret (E.thenR (E.ret3 rfl rfl rfl rfl (fun w1 hw=>?_)))))))))
   cases h
   exact ⟨_,_,rfl,⟨_,_,_,_,(hg152 ▸ hGr152),rfl,rfl⟩,(hw.nilSl 9 1).sel [1,2,0] (by decide) rfl⟩
  refine L.r 4 rfl (L.take rfl ?_)
  obtain ⟨x4,e5,h⟩:=qc h
  refine L.doesP (A:=[tQt gP114 qP114 A114]) (M:=[tQw gP114 gP152 qP152 A152]) rfl (by kernel_rfl) rfl (fun w' hw=>W35 a0 A114 gP114 qP114 w' _ e5 _ hw.lend) ?_
  rintro _ _ ⟨rfl,rfl⟩
  refine L.to (D:=Cls w F (zd gP114 qP114 A114 gP152 qP152 A152)) hI (L.r 1 rfl (L.take rfl (L.m (V:=fun x6=>.int .i64 x6) h rfl (Y.subM rfl rfl) (fun x6 ex6 h=>(L.take rfl (L.ite h rfl (Y.gtr rfl rfl) (fun c7 h=>?_) (fun c7 h=>?_)))))))
  ·refine L.r 1 rfl (ln (W.condT rfl (sr (L.r 3 rfl (ln (W.ret (E.thenR (E.ret3 rfl rfl rfl rfl (fun w1 hw=>?_)))))))))
   cases h
   exact ⟨_,_,rfl,⟨_,_,_,_,(hg152 ▸ hGr152),rfl,rfl⟩,(hw.nilSl 9 1).sel [1,2,0] (by decide) rfl⟩
  refine L.r 1 rfl (ln (W.condF rfl (W.skip (E.thenN (sr (L.r 3 rfl (L.y rfl (Y.buildC (cells:=#[VP gP114 a0,.int .i64 a1,.int .i64 a2,.int .i64 0,.int .i64 1,.int .i64 0,.bool false]) rfl (fun w hw=>by rcases qi1 gP114 a0 with h0 | ⟨_,h0⟩ <;> simp only [h0] <;> kernel_rfl)) (L.box rfl rfl ?_))))))))
  intro b8
  refine L.r 1 rfl (nsr (L.r 2 rfl (L.to (D:=Cls w F [tQt gP114 qP114 A114,qnV b8 gP114 a0 a1 a2,tQw gP114 gP152 qP152 A152]) (sI [1,0,2]) ?_)))
  obtain ⟨s9,x10,e11,h⟩:=qt h
  refine L.doesP (A:=[tQt gP114 qP114 A114]) (M:=[qnV b8 gP114 a0 a1 a2,tQw gP114 gP152 qP152 A152]) rfl (by kernel_rfl) rfl (fun w' hw=>W67 a0 a1 A114 gP114 qP114 w' _ e11 _ hw.lend) ?_
  rintro _ _ ⟨rfl,rfl⟩
  refine L.to (D:=Cls w F [tQt gP114 qP114 A114,qnV b8 gP114 a0 a1 a2,tQw gP114 gP152 qP152 A152]) hI (L.r 5 rfl (ln (W.seq (sr (L.r 1 rfl (L.ite h rfl (Y.neq rfl rfl) (fun c12 h=>?_) (fun c12 h=>?_)))))))
  ·refine ln (W.condT rfl (sr (L.r 4 rfl (ln (W.ret (E.thenR (E.ret3 rfl rfl rfl rfl (fun w1 hw=>?_))))))))
   cases h
   exact ⟨_,_,rfl,⟨_,_,_,_,(hg152 ▸ hGr152),rfl,rfl⟩,(hw.nilSl 9 1).sel [1,3,0] (by decide) rfl⟩
  refine ln (W.condF rfl (W.skip (E.thenN (W.seq (sr (L.r 2 rfl ?_))))))
  obtain ⟨x13,x14,e15,h⟩:=qt h
  refine L.y rfl (Y.does (by kernel_rfl) rfl (fun w' hw=>(W68 s9 w' _ e15).mono (fun _ _ h=>h.1))) (L.r 4 rfl (L.y rfl (Y.fieldP ju rfl) (L.sv (i:=1) (vs:=(jX x13)) sz3 rfl rfl rfl rfl rfl nb (L.r 1 rfl (nsr (L.r 1 rfl (L.ite h rfl (Y.neq rfl rfl) (fun c16 h=>?_) (fun c16 h=>?_))))))))
  ·refine ln (W.condT rfl (sr (L.r 4 rfl (ln (W.ret (E.thenR (E.ret3 rfl rfl rfl rfl (fun w1 hw=>?_))))))))
   cases h
   exact ⟨_,_,rfl,⟨_,_,_,_,(hg152 ▸ hGr152),rfl,rfl⟩,(hw.nilSl 9 1).sel [1,3,0] (by decide) rfl⟩
  refine ln (W.condF rfl (W.skip (E.thenN (sr (L.r 1 rfl (ln (W.seqJ (fun gs D=>∃ gx2 gv3 gl4 gP152 gl6 gq7,∃ gu8:Unit,gs=[(9,VP gP152 gx2),(12,gv3)]∧D=Cls w F [tQt gP114 qP114 A114,tQw gP114 gP152 gq7 gl6,tQD gv3 gl4]∧Gr g152 A152.length gP152 gl6.length∧qhl A114 gx2 gl4 gl6=some r) ?_ ?_)))))))
  ·refine sr (L.r 1 rfl (ln (W.block (W.arNew (rowg:=fun g=>TLog.rowA gP114) (subg:=fun g=>TLog.subA gP114) (e:=152) (g:=gP152) (gh:=qP152) (l:=A152) (hs:=[]) (b:=b8) (u1:=(⟨a0,a1,a2,x13,1,0,false⟩:TLog)) (vs':=[]) (m':=[tQt gP114 qP114 A114]) [1,2,0] h (by decide) rfl (fun _ h=>nomatch h) (fun _ _ _ _ _=>⟨rfl,rfl⟩) ?_))))
   intro gP152 q25 x26 l27 h hg28 hv29 hi30
   rw [hv29]
   replace hGr152:=hGr152.trans hg28
   refine W.to (D:=qbG w F gP114 gP152 q25 l27 qP114 A114) hI (W.nilSl 9 1 (W.loopJ (fun m gs D=>∃ gv9 gl10 gx11 gl12 gq13,∃ gu14:Unit,gs=[(9,VP gP152 x26),(12,gv9),(13,qI gx11)]∧D=Cls w F [tQw gP114 gP152 gq13 gl12,tQt gP114 qP114 A114,tQD gv9 gl10]∧Gr g152 A152.length gP152 gl12.length∧qeR x26 A114 m gl10 gx11 gl12=some r) ⟨tQm,[],0,l27,q25,(),rfl,rfl,hGr152,h⟩ ⟨rfl,rfl,rfl,trivial⟩ (sI [1,2,0]) ?_))
   rintro m _ _ ⟨gv9,gl10,gx11,gl12,gq13,gu14,rfl,rfl,hGr152,h⟩
   rcases m with _ | m
   ·rw [qeR] at h;cases h
   rw [qeR] at h
   generalize hg1:qeR x26 A114 m=go1 at h
   rw [qkb] at h
   refine W.seq (W.block (W.seqJ (fun gs D=>∃ gb15 gx16 gs17 gx18 gb19,gs=[(9,VP gP152 x26),(12,gv9),(13,qI gx11),(14,pt gb15 0),(15,.bool gb19)]∧D=Cls w F [tQw gP114 gP152 gq13 gl12,tQt gP114 qP114 A114,tQD gv9 gl10,qfF gb15 gx16 gs17 gx18]∧qjc gl12 x26 gx11 A114 gl10 go1 gx16 gs17 gx18 gb19=some r) ?_ ?_))
   ·obtain ⟨th46,eth46,h⟩:=qc h
    refine W.to (D:=Cls w F (qlP gP152 x26 gP114 th46 gq13 gl12 qP114 A114 gv9 gl10)) (fun _ hw=>hw.aO 0 rfl eth46) (W.drawn2 (k:=16) (stC [[9,14],[14]] [Cls w F (qlP gP152 x26 gP114 th46 gq13 gl12 qP114 A114 gv9 gl10),Cls w F [tQt gP114 qP114 A114,tQD gv9 gl10]] (Cls w F [tQt gP114 qP114 A114,tQD gv9 gl10])) rfl mixed (fun _ hw=>hw.drew) (Sc.now (by kernel_rfl) hI) (V2.zz [] (Zc.on' (Zc.on' (Zc.fin hI) hI) (sI [2,3])) (fun hz64=>(V2.r [0,1] (by kernel_rfl) rfl (V2.apNil (i:=2) (Nx2.of [] (by kernel_rfl) rfl hz64) rfl rfl rfl eth46 (V2.q 3 [] hz64 rfl rfl (Y.fieldP jt rfl) (V2.zz [9,14] (Zc.at1 hI) (fun hz66=>(V2.q 4 [9,14] hz66 rfl rfl (Y.loadP (i:=0) ag3 rfl rfl rfl) (V2.r [5] (by kernel_rfl) rfl (V2.apNil (i:=6) (Nx2.of [] (by kernel_rfl) rfl hz64) rfl rfl rfl eth46 (V2.q 7 [] hz64 rfl rfl (Y.fieldP kx rfl) (V2.q 8 [9,14] hz66 rfl rfl (Y.loadP (i:=0) ag3 rfl rfl rfl) (V2.eff2 (i1:=9) (i2:=13) (by kernel_rfl) rfl rfl ?_ ?_))))))))))))))
    ·refine L.to (D:=Cls w F [tQw gP114 gP152 gq13 gl12,tQt gP114 qP114 A114,tQD gv9 gl10]) (fun _ hw=>hw.aS [0,1,2,3] eth46 rfl) (L.to (D:=Cls w F [tQt gP114 qP114 A114,tQw gP114 gP152 gq13 gl12,tQD gv9 gl10]) (sI [1,0,2]) ?_)
     obtain ⟨x68,b69,e70,h⟩:=qt h
     refine L.doesP (A:=(zd gP114 qP114 A114 gP152 gq13 gl12)) (M:=[tQD gv9 gl10]) rfl (by kernel_rfl) rfl (fun w' hw=>W69 x26 th46.at_ th46.seq_ A114 gl12 gP114 gP152 qP114 gq13 w' _ e70 _ hw.lend) ?_
     rintro _ _ ⟨rfl,rfl⟩
     refine L.to (D:=Cls w F [tQt gP114 qP114 A114,tQw gP114 gP152 gq13 gl12,tQD gv9 gl10]) hI (L.nil (E.toV2 (stC [[14]] [Cls w F [tQt gP114 qP114 A114,tQD gv9 gl10]] (Cls w F [tQt gP114 qP114 A114,tQD gv9 gl10])) 9 (by kernel_rfl) (Sc.past rfl (Sc.stay hI (Sc.stayD hI))) (Sc.now (by kernel_rfl) (sI [0,2])) (V2.zz [] (Zc.on' (Zc.fin hI) hI) (fun hz71=>(V2.r [10,11] (by kernel_rfl) rfl (V2.iteB (i:=12) h (Nx2.of [] (by kernel_rfl) rfl hz71) rfl rfl rfl (Y.extract rfl rfl) (fun c72 h=>?_) (fun c72 h=>?_)))))))
     ·refine V2.eff (i:=13) (by kernel_rfl) rfl (L.alloc rfl qhZ ?_)
      intro b73
      exact L.nil (E.toV2 (stC [[14]] [Cls w F [jC b73,tQt gP114 qP114 A114,tQD gv9 gl10]] (Cls w F [tQt gP114 qP114 A114,tQD gv9 gl10])) 13 (by kernel_rfl) (Sc.stay (sI [1,2]) (Sc.stayD hI)) (Sc.now (by kernel_rfl) (sI [0,1,3])) (V2.eff (i:=14) (by kernel_rfl) rfl (L.sv (i:=0) (vs:=(qnn x68)) zI rfl rfl rfl rfl rfl nb (L.nil (E.toV2 (stC [] [] (Cls w F [tQt gP114 qP114 A114,tQD gv9 gl10])) 14 (by kernel_rfl) (Sc.past rfl (Sc.stayD hI)) (Sc.atD (sI [1,3])) (V2.r [15] (by kernel_rfl) rfl (V2.done (by kernel_rfl) (E.jJ ⟨b73,x68.epoch_,x68.text_,x68.size_,true,rfl,rfl,h⟩ (sI [2,1,3,0])))))))))
     refine V2.eff (i:=13) (by kernel_rfl) rfl (L.alloc rfl qhZ ?_)
     intro b75
     exact L.nil (E.toV2 (stC [[14]] [Cls w F [jC b75,tQt gP114 qP114 A114,tQD gv9 gl10]] (Cls w F [tQt gP114 qP114 A114,tQD gv9 gl10])) 13 (by kernel_rfl) (Sc.stay (sI [1,2]) (Sc.stayD hI)) (Sc.now (by kernel_rfl) (sI [0,1,3])) (V2.eff (i:=14) (by kernel_rfl) rfl (L.sv (i:=0) (vs:=(qnn x68)) zI rfl rfl rfl rfl rfl nb (L.nil (E.toV2 (stC [] [] (Cls w F [tQt gP114 qP114 A114,tQD gv9 gl10])) 14 (by kernel_rfl) (Sc.past rfl (Sc.stayD hI)) (Sc.atD (sI [1,3])) (V2.r [15] (by kernel_rfl) rfl (V2.done (by kernel_rfl) (E.jJ ⟨b75,x68.epoch_,x68.text_,x68.size_,false,rfl,rfl,h⟩ (sI [2,1,3,0])))))))))
    refine L.alloc rfl qhZ ?_
    intro b77
    refine L.nil (E.toV2 (stC [[9,14],[14]] [Cls w F (jC b77::qlP gP152 x26 gP114 th46 gq13 gl12 qP114 A114 gv9 gl10),Cls w F [jC b77,tQt gP114 qP114 A114,tQD gv9 gl10]] (Cls w F [tQt gP114 qP114 A114,tQD gv9 gl10])) 13 (by kernel_rfl) (Sc.stay (sI [1,2,3,4]) (Sc.stay (sI [1,2]) (Sc.stayD hI))) (Sc.now (by kernel_rfl) hI) (V2.eff (i:=9) (by kernel_rfl) rfl (L.to (D:=Cls w F [tQw gP114 gP152 gq13 gl12,jC b77,tQt gP114 qP114 A114,tQD gv9 gl10]) (fun _ hw=>hw.aS [1,2,0,3,4] eth46 rfl) (L.to (D:=Cls w F [tQt gP114 qP114 A114,tQw gP114 gP152 gq13 gl12,jC b77,tQD gv9 gl10]) (sI [2,0,1,3]) ?_))))
    obtain ⟨x78,b79,e80,h⟩:=qt h
    refine L.doesP (A:=(zd gP114 qP114 A114 gP152 gq13 gl12)) (M:=[jC b77,tQD gv9 gl10]) rfl (by kernel_rfl) rfl (fun w' hw=>W69 x26 th46.at_ th46.seq_ A114 gl12 gP114 gP152 qP114 gq13 w' _ e80 _ hw.lend) ?_
    rintro _ _ ⟨rfl,rfl⟩
    refine L.to (D:=Cls w F [tQt gP114 qP114 A114,tQw gP114 gP152 gq13 gl12,jC b77,tQD gv9 gl10]) hI (L.nil (E.toV2 (stC [[14]] [Cls w F [tQt gP114 qP114 A114,jC b77,tQD gv9 gl10]] (Cls w F [tQt gP114 qP114 A114,tQD gv9 gl10])) 9 (by kernel_rfl) (Sc.past rfl (Sc.stay (sI [1,0,2]) (Sc.stayD hI))) (Sc.now (by kernel_rfl) (sI [0,2,3])) (V2.zz [] (Zc.on' (Zc.fin hI) (sI [0,2])) (fun hz81=>(V2.r [10,11] (by kernel_rfl) rfl (V2.iteB (i:=12) h (Nx2.of [] (by kernel_rfl) rfl hz81) rfl rfl rfl (Y.extract rfl rfl) (fun c82 h=>?_) (fun c82 h=>?_)))))))
    ·exact V2.eff (i:=14) (by kernel_rfl) rfl (L.sv (i:=2) (vs:=(qnn x78)) zI rfl rfl rfl rfl rfl nb (L.nil (E.toV2 (stC [] [] (Cls w F [tQt gP114 qP114 A114,tQD gv9 gl10])) 14 (by kernel_rfl) (Sc.past rfl (Sc.stayD hI)) (Sc.atD (sI [0,3])) (V2.r [15] (by kernel_rfl) rfl (V2.done (by kernel_rfl) (E.jJ ⟨b77,x78.epoch_,x78.text_,x78.size_,true,rfl,rfl,h⟩ (sI [1,0,3,2])))))))
    exact V2.eff (i:=14) (by kernel_rfl) rfl (L.sv (i:=2) (vs:=(qnn x78)) zI rfl rfl rfl rfl rfl nb (L.nil (E.toV2 (stC [] [] (Cls w F [tQt gP114 qP114 A114,tQD gv9 gl10])) 14 (by kernel_rfl) (Sc.past rfl (Sc.stayD hI)) (Sc.atD (sI [0,3])) (V2.r [15] (by kernel_rfl) rfl (V2.done (by kernel_rfl) (E.jJ ⟨b77,x78.epoch_,x78.text_,x78.size_,false,rfl,rfl,h⟩ (sI [1,0,3,2])))))))
   rintro _ _ ⟨gb15,gx16,gs17,gx18,gb19,rfl,rfl,h⟩
   rw [qjc] at h
   rcases gb19 with _ | _
   ·replace h:=zn h
    refine W.seq (W.seq ?_)
    obtain ⟨th31,eth31,h⟩:=qc h
    refine W.to (D:=Cls w F [tQl gP152 x26 gP114 th31,qer gP114 gP152 gq13 gl12 x26,tQt gP114 qP114 A114,tQD gv9 gl10,qfF gb15 gx16 gs17 gx18]) (fun _ hw=>hw.aO 0 rfl eth31) (W.quietC mixed (by kernel_rfl) (fun _ hw=>hw.drew) (fun hC=>(U.r 1 rfl (U.y rfl (Y.not rfl) (U.r 15 rfl (U.nil (E.thenN (W.condT rfl (W.exit (E.thenX (E.blockY rfl (E.thenX (E.KLX (E.blockX ?_))))))))))))))
    exact E.to (D:=Cls w F [tQw gP114 gP152 gq13 gl12,tQt gP114 qP114 A114,tQD gv9 gl10,qfF gb15 gx16 gs17 gx18]) (fun _ hw=>hw.aS [0,1,2,3,4] eth31 rfl) (E.jJ ⟨x26,gv9,gl10,gP152,gl12,gq13,(),rfl,rfl,hGr152,h⟩ (sI [1,0,2]))
   replace h:=zm h
   refine W.seq (W.seq ?_)
   obtain ⟨th32,eth32,h⟩:=qc h
   refine W.to (D:=Cls w F [tQl gP152 x26 gP114 th32,qer gP114 gP152 gq13 gl12 x26,tQt gP114 qP114 A114,tQD gv9 gl10,qfF gb15 gx16 gs17 gx18]) (fun _ hw=>hw.aO 0 rfl eth32) (W.quietC mixed (by kernel_rfl) (fun _ hw=>hw.drew) (fun hC=>(U.r 1 rfl (U.y rfl (Y.not rfl) (U.r 1 rfl (U.take rfl (U.y rfl (Y.fieldP qb8 rfl) (U.take rfl (U.y rfl (Y.loadP (i:=4) ag3 rfl rfl rfl) (U.r 1 rfl (U.take rfl (U.ite h rfl (Y.lss rfl rfl) (fun c33 h=>?_) (fun c33 h=>?_)))))))))))))
   ·exact U.r 10 rfl (U.nil (E.thenN (W.condT rfl (W.exit (E.thenX (E.blockY rfl (E.thenX (E.KLX (E.blockX (E.to (D:=Cls w F [tQw gP114 gP152 gq13 gl12,tQt gP114 qP114 A114,tQD gv9 gl10,qfF gb15 gx16 gs17 gx18]) (fun _ hw=>hw.aS [0,1,2,3,4] eth32 rfl) (E.jJ ⟨x26,gv9,gl10,gP152,gl12,gq13,(),rfl,rfl,hGr152,h⟩ (sI [1,0,2]))))))))))))
   refine U.r 2 rfl (U.take rfl (U.y rfl (Y.fieldP qb8 rfl) (U.take rfl (U.y rfl (Y.loadP (i:=4) ag3 rfl rfl rfl) (U.r 1 rfl (U.take rfl (U.y rfl (Y.apNil rfl eth32) (U.take rfl (U.y rfl (Y.fieldP ju rfl) (U.take rfl (U.y rfl (Y.loadP (i:=0) ag3 rfl rfl rfl) (U.take rfl (U.ite h rfl (Y.gtr rfl rfl) (fun c34 h=>?_) (fun c34 h=>?_))))))))))))))
   ·exact U.r 1 rfl (U.nil (E.thenN (W.condT rfl (W.exit (E.thenX (E.blockY rfl (E.thenX (E.KLX (E.blockX (E.to (D:=Cls w F [tQw gP114 gP152 gq13 gl12,tQt gP114 qP114 A114,tQD gv9 gl10,qfF gb15 gx16 gs17 gx18]) (fun _ hw=>hw.aS [0,1,2,3,4] eth32 rfl) (E.jJ ⟨x26,gv9,gl10,gP152,gl12,gq13,(),rfl,rfl,hGr152,h⟩ (sI [1,0,2]))))))))))))
   refine U.r 1 rfl (U.nil (E.thenN (W.condF rfl (W.skip (E.thenN (sr (L.y rfl (Y.fieldP qb8 rfl) (L.y rfl (Y.loadP (i:=4) ag3 rfl rfl rfl) (L.r 1 rfl (ln (W.seq ?_)))))))))))
   refine W.drawn2 (k:=10) (stC [[9]] [Cls w F [tQl gP152 x26 gP114 th32,qer gP114 gP152 gq13 gl12 x26,tQt gP114 qP114 A114,tQD gv9 gl10,qfF gb15 gx16 gs17 gx18]] (Cls w F [qer gP114 gP152 gq13 gl12 x26,tQt gP114 qP114 A114,tQD gv9 gl10,qfF gb15 gx16 gs17 gx18])) rfl mixed (fun _ hw=>hw.drew) (Sc.now (by kernel_rfl) hI) (V2.zz [] (Zc.on' (Zc.fin hI) (sI [1,2,3,4])) (fun hz37=>(V2.r [0] (by kernel_rfl) rfl (V2.apNil (i:=1) (Nx2.of [] (by kernel_rfl) rfl hz37) rfl rfl rfl eth32 (V2.q 2 [] hz37 rfl rfl (Y.fieldP jt rfl) (V2.zz [9] (Zc.at1 hI) (fun hz38=>(V2.q 3 [9] hz38 rfl rfl (Y.loadP (i:=0) ag3 rfl rfl rfl) (V2.q 4 [] hz37 rfl rfl (Y.fieldP qlc rfl) (V2.q 5 [] hz37 rfl rfl (Y.loadP (i:=3) ag3 rfl rfl rfl) (V2.m (i:=6) (V':=fun x39=>.int .i64 x39) h (Nx2.of [] (by kernel_rfl) rfl hz37) rfl rfl rfl (Y.addM rfl rfl) (fun x39 ex39 h=>(V2.apNil (i:=7) (Nx2.of [] (by kernel_rfl) rfl hz37) rfl rfl rfl eth32 (V2.q 8 [] hz37 rfl rfl (Y.fieldP jt rfl) (V2.eff (i:=9) (by kernel_rfl) rfl (L.sv (i:=0) (vs:=(jX x39)) sz3 rfl rfl rfl rfl rfl nb ?_))))))))))))))))
   refine L.nil (E.toV2 (stC [] [] (Cls w F [qer gP114 gP152 gq13 gl12 x26,tQt gP114 qP114 A114,tQD gv9 gl10,qfF gb15 gx16 gs17 gx18])) 9 (by kernel_rfl) (Sc.past rfl (Sc.stayD hI)) (Sc.atD (sI [1,2,3,4])) (V2.done (by kernel_rfl) (E.thenN (W.region (L.r 1 rfl (L.y rfl (Y.fieldP qld rfl) (L.y rfl (Y.loadP (i:=4) ag9 rfl rfl rfl) (L.litOne rfl Tryz.underlying111 eL9 rfl rfl ?_))))))))
   intro b40
   refine L.appM (i:=4) (g:=SR) (l:=gl10) (more:=[gs17]) h rfl Tryz.underlying111 eL9 rfl rfl rfl (fun w hw=>As.at_ (hw.get (i:=0) rfl)) (qp _) rfl ?_
   intro v41 l42 el42 h
   refine L.r 1 rfl (L.nil (E.blockN (E.thenN (W.region (L.r 1 rfl (L.y rfl (Y.apNil rfl eth32) (L.y rfl (Y.fieldP kx rfl) (L.y rfl (Y.loadP (i:=2) ag3 rfl rfl rfl) (L.m (V:=fun x43=>.int .i64 x43) h rfl (Y.addM rfl rfl) (fun x43 ex43 h=>(L.y rfl (Y.apNil rfl eth32) (L.y rfl (Y.fieldP kx rfl) (L.sv (i:=2) (vs:=(jX x43)) sz3 rfl rfl rfl rfl rfl nb (L.nil ?_))))))))))))))
   obtain ⟨l44,el44,h⟩:=qc h
   refine E.aC (row:=TLog.rowA gP114) (sub:=TLog.subA gP114) (e:=152) (g:=gP152) (gh:=gq13) (vs':=[]) (m':=[tQD v41 l42,qhS b40 gs17,tQt gP114 qP114 A114,qfF gb15 gx16 gs17 gx18]) [2,3,0,1,4,5] el44 rfl ?_
   intro q45
   replace hGr152:=hGr152.upd el44
   exact E.to (D:=Cls w F [tQw gP114 gP152 q45 l44,tQD v41 l42,qhS b40 gs17,tQt gP114 qP114 A114,qfF gb15 gx16 gs17 gx18]) hI (E.aJ ⟨v41,l42,gx16,l44,q45,(),rfl,rfl,hGr152,by rw [hg1];exact h⟩ (sI [0,3,1]))
  rintro _ _ ⟨gx2,gv3,gl4,gP152,gl6,gq7,gu8,rfl,rfl,hGr152,h⟩
  rw [qhl] at h
  refine W.seq (sr (L.r 1 rfl ?_))
  obtain ⟨l17,l18,x19,e20,h⟩:=zt h
  refine L.doesP (A:=(zd gP114 qP114 A114 gP152 gq7 gl6)) (M:=[tQD gv3 gl4]) rfl (by kernel_rfl) rfl (fun w' hw=>W70 gx2 A114 gl6 gP114 gP152 qP114 gq7 w' _ e20 _ hw.lend) ?_
  rintro _ _ ⟨q21,q22,rfl,rfl⟩
  obtain ⟨_,c23,h⟩:=qc h
  replace hGr152:=hGr152.len (qz c23)
  refine L.to (D:=Cls w F [tQt gP114 q21 l17,tQw gP114 gP152 q22 l18,tQD gv3 gl4]) hI (L.r 1 rfl (nsr (L.r 1 rfl (L.ite h rfl (Y.neq rfl rfl) (fun c24 h=>?_) (fun c24 h=>?_)))))
  ·refine ln (W.condT rfl (sr (L.r 4 rfl (ln (W.ret (E.thenR (E.ret3 rfl rfl rfl rfl (fun w1 hw=>?_))))))))
   cases h
   exact ⟨_,_,rfl,⟨_,_,_,_,(hg152 ▸ hGr152),rfl,rfl⟩,(hw.nilSl 9 1).sel [1,2,0] (by decide) rfl⟩
  refine ln (W.condF rfl (W.skip (E.thenN (sr (L.r 5 rfl (ln (W.ret (E.ret3 rfl rfl rfl rfl (fun w1 hw=>?_)))))))))
  cases h
  exact ⟨_,_,rfl,⟨_,_,_,_,(hg152 ▸ hGr152),rfl,rfl⟩,hw⟩
 replace h:=zm h
 refine L.r 14 rfl (ln (W.condT rfl (sr (L.r 3 rfl (ln (W.ret (E.thenR (E.ret3 rfl rfl rfl rfl (fun w1 hw=>?_)))))))))
 cases h
 exact ⟨_,_,rfl,⟨_,_,_,_,(hg152 ▸ hGr152),rfl,rfl⟩,(hw.nilSl 9 1).sel [1,2,0] (by decide) rfl⟩
set_option maxRecDepth 100000 in
set_option maxHeartbeats 8000000 in
theorem qpR (a0:(List UInt8)) (w:World) (r:((List UInt8)×Int×Int)) (h:qoG a0=some r):Does Tryz.prog 112 [st a0] w fun u m=>u=.tuple #[st r.1,.int .i64 r.2.1,.int .i64 r.2.2]∧m=[]:=by
 rw [qoG] at h
 refine body (n:=40) Tryz.func112 rfl rfl rfl (Cls.refl w) (sr (L.r 3 rfl (nsr (L.r 1 rfl ?_))))
 obtain ⟨x1,x2,x3,e4,h⟩:=zt h
 refine L.y rfl (Y.does (by kernel_rfl) rfl (fun w' hw=>(qoC a0 w' _ e4).mono (fun _ _ h=>h.1))) (L.r 7 rfl (ln (W.seq (W.block (sr (L.r 1 rfl (L.ite h rfl (Y.neq rfl rfl) (fun c5 h=>?_) (fun c5 h=>?_))))))))
 ·refine L.r 1 rfl (ln (W.condT rfl (sr (L.r 4 rfl (ln (W.ret (E.blockR (E.thenR (E.ret3 rfl rfl rfl rfl (fun w1 hw=>?_))))))))))
  cases h
  exact ⟨_,_,rfl,⟨rfl,rfl⟩,hw⟩
 refine L.r 1 rfl (ln (W.condF rfl (sr (L.r 1 rfl (L.ite h rfl (Y.gtr rfl rfl) (fun c6 h=>?_) (fun c6 h=>?_))))))
 ·refine L.r 1 rfl (ln (W.condT rfl (sr (L.r 3 rfl (ln (W.ret (E.blockR (E.thenR (E.ret3 rfl rfl rfl rfl (fun w1 hw=>?_))))))))))
  cases h
  exact ⟨_,_,rfl,⟨rfl,rfl⟩,hw⟩
 refine L.r 1 rfl (ln (W.condF rfl (sr (L.r 1 rfl (L.y rfl (Y.lenS Tryz.underlying9 rfl) (L.r 1 rfl (L.m (V:=fun x7=>.int .i64 x7) h rfl (Y.subM rfl rfl) (fun x7 ex7 h=>(L.y rfl (Y.conv Tryz.underlying3 Tryz.underlying178 rfl) (L.r 1 rfl (L.ite h rfl (Y.lss rfl rfl) (fun c8 h=>?_) (fun c8 h=>?_))))))))))))
 ·refine L.r 1 rfl (ln (W.condT rfl (sr (L.r 3 rfl (ln (W.ret (E.blockR (E.thenR (E.ret3 rfl rfl rfl rfl (fun w1 hw=>?_))))))))))
  cases h
  exact ⟨_,_,rfl,⟨rfl,rfl⟩,hw⟩
 refine L.r 1 rfl (ln (W.condF rfl (W.skip (E.blockN (E.thenN (sr (L.r 4 rfl (L.y rfl (Y.conv Tryz.underlying178 Tryz.underlying3 rfl) (L.m (V:=fun x9=>.int .i64 x9) h rfl (Y.addM rfl rfl) (fun x9 ex9 h=>(L.m (V:=fun s10=>st s10) h rfl (Y.sliceSM Tryz.underlying9 rfl rfl rfl) (fun s10 es10 h=>(L.r 2 rfl ?_)))))))))))))
 refine L.y rfl (Y.conv Tryz.underlying178 Tryz.underlying3 rfl) (L.m (V:=fun x11=>.int .i64 x11) h rfl (Y.addM rfl rfl) (fun x11 ex11 h=>(L.r 3 rfl (ln (W.ret (E.ret3 rfl rfl rfl rfl (fun w1 hw=>?_)))))))
 cases h
 exact ⟨_,_,rfl,⟨rfl,rfl⟩,hw⟩
set_option maxRecDepth 100000 in
set_option maxHeartbeats 8000000 in
theorem W72 (a0:(List UInt8)) (w:World) (r:(Int×(List UInt8)×(List UInt8)×Bool)) (h:M72 a0=some r):Does Tryz.prog 72 [st a0] w fun u m=>u=.tuple #[.int .i64 r.1,st r.2.1,st r.2.2.1,.bool r.2.2.2]∧m=[]:=by
 rw [M72] at h
 refine body (n:=49) Tryz.func72 rfl rfl rfl (Cls.refl w) (sr (L.r 4 rfl (nsr (L.r 1 rfl ?_))))
 obtain ⟨x1,x2,x3,e4,h⟩:=zt h
 refine L.y rfl (Y.does qgF rfl (fun w' hw=>(W71 a0 w' _ e4).mono (fun _ _ h=>h.1))) (L.r 7 rfl (ln (W.seq (sr (L.cutJ 6 (fun gs D=>∃ gb1,gs=[(0,st a0),(6,.int .i64 x1),(7,.int .i64 x2),(22,.bool gb1)]∧D=Cls w [] []∧qha x1 a0 x2 gb1=some r) ?_ ?_)))))
 ·refine L.r 1 rfl (L.ite h rfl (Y.neq rfl rfl) (fun c15 h=>?_) (fun c15 h=>?_))
  ·exact L.r 4 rfl (L.nil (E.jJ ⟨true,rfl,rfl,h⟩ hI))
  refine L.r 2 rfl (L.take rfl (L.ite h rfl (Y.lss rfl rfl) (fun c16 h=>?_) (fun c16 h=>?_)))
  ·exact L.r 1 rfl (L.nil (E.jJ ⟨true,rfl,rfl,h⟩ hI))
  exact L.r 1 rfl (L.nil (E.jJ ⟨false,rfl,rfl,h⟩ hI))
 rintro _ _ ⟨gb1,rfl,rfl,h⟩
 rw [qha] at h
 rcases gb1 with _ | _
 ·replace h:=zn h
  refine L.r 2 rfl (L.take rfl (L.ite h rfl (Y.geq rfl rfl) (fun c5 h=>?_) (fun c5 h=>?_)))
  ·refine L.r 1 rfl (ln (W.condT rfl (sr (L.r 4 rfl (ln (W.ret (E.thenR (E.ret4 rfl rfl rfl rfl rfl (fun w1 hw=>?_)))))))))
   cases h
   exact ⟨_,_,rfl,⟨rfl,rfl⟩,hw⟩
  refine L.r 1 rfl (ln (W.condF rfl (W.skip (E.thenN (sr (L.r 2 rfl (L.m (V:=fun s6=>st s6) h rfl (Y.sliceSL Tryz.underlying9 rfl rfl) (fun s6 es6 h=>?_))))))))
  obtain ⟨s7,x8,x9,e10,h⟩:=zt h
  refine L.y rfl (Y.does (by kernel_rfl) rfl (fun w' hw=>(qpR s6 w' _ e10).mono (fun _ _ h=>h.1))) (L.r 7 rfl (ln (W.seq (sr (L.r 1 rfl (L.ite h rfl (Y.neq rfl rfl) (fun c11 h=>?_) (fun c11 h=>?_)))))))
  ·refine L.r 5 rfl (ln (W.condT rfl (sr (L.r 4 rfl (ln (W.ret (E.thenR (E.ret4 rfl rfl rfl rfl rfl (fun w1 hw=>?_)))))))))
   cases h
   exact ⟨_,_,rfl,⟨rfl,rfl⟩,hw⟩
  refine L.r 2 rfl (L.take rfl (L.y rfl (Y.lenS Tryz.underlying9 rfl) (L.take rfl (L.ite h rfl (Y.gtr rfl rfl) (fun c12 h=>?_) (fun c12 h=>?_)))))
  ·refine L.r 1 rfl (ln (W.condT rfl (sr (L.r 4 rfl (ln (W.ret (E.thenR (E.ret4 rfl rfl rfl rfl rfl (fun w1 hw=>?_)))))))))
   cases h
   exact ⟨_,_,rfl,⟨rfl,rfl⟩,hw⟩
  refine L.r 1 rfl (ln (W.condF rfl (W.skip (E.thenN (W.seq (W.quietC mixed (by kernel_rfl) (fun _ hw=>hw.drew) (fun hC=>(U.r 5 rfl (U.m (V:=fun x13=>.int .i64 x13) h rfl (Y.addM rfl rfl) (fun x13 ex13 h=>(U.m (V:=fun s14=>st s14) h rfl (Y.sliceSL Tryz.underlying9 rfl rfl) (fun s14 es14 h=>(U.r 4 rfl (U.nil (E.thenN ?_)))))))))))))))
  refine W.ret (E.ret4 rfl rfl rfl rfl rfl (fun w1 hw=>?_))
  cases h
  exact ⟨_,_,rfl,⟨rfl,rfl⟩,hw⟩
 replace h:=zm h
 refine L.r 4 rfl (ln (W.condT rfl (sr (L.r 4 rfl (ln (W.ret (E.thenR (E.ret4 rfl rfl rfl rfl rfl (fun w1 hw=>?_)))))))))
 cases h
 exact ⟨_,_,rfl,⟨rfl,rfl⟩,hw⟩
end Go.Proofs.YtdlemoeinjihkaaGreatDoor
