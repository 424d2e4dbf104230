import Derived.Test.YtbjidacdnjojnaaGreatDoorToM
import Derived.Test.YtbjidacdnjojnaaGreatDoorChecked
import Derived.KernelRfl
import Derived.Test.YtbjidacdnjojnaaGreatDoorZe
namespace Go.Proofs.YtbjidacdnjojnaaGreatDoor
open Go.S
set_option linter.unusedVariables false
set_option linter.unusedSimpArgs false
theorem mixed:Tryz.prog.follows .mixedOrders=true:=by kernel_rfl
theorem ag3:zb Tryz.prog 3 false=true:=by kernel_rfl
theorem ag4:zb Tryz.prog 4 false=true:=by kernel_rfl
theorem ag9:zb Tryz.prog 9 false=true:=by kernel_rfl
theorem qgZ:zb Tryz.prog 24 false=true:=by kernel_rfl
theorem qio:zb Tryz.prog 25 false=true:=by kernel_rfl
theorem qj4:zb Tryz.prog 29 false=true:=by kernel_rfl
theorem qdf:zb Tryz.prog 30 true=true:=by kernel_rfl
theorem qk4:zb Tryz.prog 34 true=true:=by kernel_rfl
theorem qk3:zb Tryz.prog 37 true=true:=by kernel_rfl
theorem qde:zb Tryz.prog 57 false=true:=by kernel_rfl
theorem qkr:zb Tryz.prog 58 false=true:=by kernel_rfl
theorem qk2:zb Tryz.prog 62 true=true:=by kernel_rfl
theorem qkq:zb Tryz.prog 64 false=true:=by kernel_rfl
theorem qjr:zb Tryz.prog 66 false=true:=by kernel_rfl
theorem qkp:zb Tryz.prog 67 true=true:=by kernel_rfl
theorem qgY:zb Tryz.prog 68 false=true:=by kernel_rfl
theorem kA:zb Tryz.prog 72 true=true:=by kernel_rfl
theorem qin:zb Tryz.prog 79 true=true:=by kernel_rfl
theorem qdd:zb Tryz.prog 84 false=true:=by kernel_rfl
theorem qab:zb Tryz.prog 86 false=true:=by kernel_rfl
theorem vr:zb Tryz.prog 105 true=true:=by kernel_rfl
theorem qf1:zb Tryz.prog 161 true=true:=by kernel_rfl
theorem eL3:zX Tryz.prog 3 1 8=true:=by kernel_rfl
theorem eL5:zX Tryz.prog 5 1 1=true:=by kernel_rfl
theorem eL9:zX Tryz.prog 9 1 16=true:=by kernel_rfl
theorem qko:zX Tryz.prog 62 2 24=true:=by kernel_rfl
theorem qgU:zX Tryz.prog 79 2 24=true:=by kernel_rfl
theorem qe5:zX Tryz.prog 84 1 8=true:=by kernel_rfl
theorem en5:qO Tryz.prog 5=true:=by kernel_rfl
theorem en6:qO Tryz.prog 6=true:=by kernel_rfl
theorem en7:qO Tryz.prog 7=true:=by kernel_rfl
theorem en9:qO Tryz.prog 9=true:=by kernel_rfl
theorem qhX:qO Tryz.prog 10=true:=by kernel_rfl
theorem qgT:qO Tryz.prog 11=true:=by kernel_rfl
theorem qet:qO Tryz.prog 12=true:=by kernel_rfl
theorem qig:qO Tryz.prog 13=true:=by kernel_rfl
theorem qjY:qO Tryz.prog 14=true:=by kernel_rfl
theorem qjX:qO Tryz.prog 15=true:=by kernel_rfl
theorem qkn:qO Tryz.prog 16=true:=by kernel_rfl
theorem qkY:qO Tryz.prog 17=true:=by kernel_rfl
theorem qkX:qO Tryz.prog 18=true:=by kernel_rfl
theorem qkW:qO Tryz.prog 19=true:=by kernel_rfl
theorem qjW:qO Tryz.prog 20=true:=by kernel_rfl
theorem qkm:qO Tryz.prog 21=true:=by kernel_rfl
theorem qgS:qO Tryz.prog 22=true:=by kernel_rfl
theorem qkV:qO Tryz.prog 23=true:=by kernel_rfl
theorem qaP:qO Tryz.prog 24=true:=by kernel_rfl
theorem kz:qO Tryz.prog 25=true:=by kernel_rfl
theorem qkl:qO Tryz.prog 26=true:=by kernel_rfl
theorem qkk:qO Tryz.prog 27=true:=by kernel_rfl
theorem qkj:qO Tryz.prog 28=true:=by kernel_rfl
theorem qki:qO Tryz.prog 29=true:=by kernel_rfl
theorem qjq:qO Tryz.prog 30=true:=by kernel_rfl
theorem qfM:qO Tryz.prog 31=true:=by kernel_rfl
theorem qif:qO Tryz.prog 32=true:=by kernel_rfl
theorem qhW:qO Tryz.prog 33=true:=by kernel_rfl
theorem qhV:qO Tryz.prog 34=true:=by kernel_rfl
theorem qjV:qO Tryz.prog 35=true:=by kernel_rfl
theorem qkU:qO Tryz.prog 36=true:=by kernel_rfl
theorem qjU:qO Tryz.prog 37=true:=by kernel_rfl
theorem qes:qO Tryz.prog 38=true:=by kernel_rfl
theorem qkh:qO Tryz.prog 39=true:=by kernel_rfl
theorem qkg:qO Tryz.prog 40=true:=by kernel_rfl
theorem qi4:qO Tryz.prog 41=true:=by kernel_rfl
theorem qer:qO Tryz.prog 42=true:=by kernel_rfl
theorem qjT:qO Tryz.prog 43=true:=by kernel_rfl
theorem qjS:qO Tryz.prog 44=true:=by kernel_rfl
theorem qie:qO Tryz.prog 45=true:=by kernel_rfl
theorem qjR:qO Tryz.prog 46=true:=by kernel_rfl
theorem qjQ:qO Tryz.prog 47=true:=by kernel_rfl
theorem qgR:qO Tryz.prog 48=true:=by kernel_rfl
theorem qhU:qO Tryz.prog 49=true:=by kernel_rfl
theorem qi3:qO Tryz.prog 50=true:=by kernel_rfl
theorem qkT:qO Tryz.prog 51=true:=by kernel_rfl
theorem qjp:qO Tryz.prog 52=true:=by kernel_rfl
theorem qkf:qO Tryz.prog 53=true:=by kernel_rfl
theorem qke:qO Tryz.prog 54=true:=by kernel_rfl
theorem qkd:qO Tryz.prog 55=true:=by kernel_rfl
theorem qkS:qO Tryz.prog 56=true:=by kernel_rfl
theorem qkc:qO Tryz.prog 57=true:=by kernel_rfl
theorem qi2:qO Tryz.prog 58=true:=by kernel_rfl
theorem qhT:qO Tryz.prog 60=true:=by kernel_rfl
theorem qi1:qO Tryz.prog 65=true:=by kernel_rfl
theorem qkb:qO Tryz.prog 66=true:=by kernel_rfl
theorem qkR:qO Tryz.prog 67=true:=by kernel_rfl
theorem qdc:qO Tryz.prog 68=true:=by kernel_rfl
theorem qid:qO Tryz.prog 69=true:=by kernel_rfl
theorem qeq:qO Tryz.prog 70=true:=by kernel_rfl
theorem qhS:qO Tryz.prog 71=true:=by kernel_rfl
theorem qjP:qO Tryz.prog 72=true:=by kernel_rfl
theorem qka:qO Tryz.prog 73=true:=by kernel_rfl
theorem qkQ:qO Tryz.prog 74=true:=by kernel_rfl
theorem qkP:qO Tryz.prog 75=true:=by kernel_rfl
theorem qkO:qO Tryz.prog 76=true:=by kernel_rfl
theorem qkN:qO Tryz.prog 77=true:=by kernel_rfl
theorem qkM:qO Tryz.prog 82=true:=by kernel_rfl
theorem qkL:qO Tryz.prog 85=true:=by kernel_rfl
theorem qkK:qO Tryz.prog 86=true:=by kernel_rfl
theorem qkJ:qO Tryz.prog 92=true:=by kernel_rfl
theorem qic:qO Tryz.prog 93=true:=by kernel_rfl
theorem qi0:qO Tryz.prog 94=true:=by kernel_rfl
theorem qkI:qO Tryz.prog 95=true:=by kernel_rfl
theorem qaQ:qO Tryz.prog 113=true:=by kernel_rfl
theorem qi5:qO Tryz.prog 114=true:=by kernel_rfl
theorem qkZ:qO Tryz.prog 123=true:=by kernel_rfl
theorem vR:qw Tryz.prog 32 0 0=true:=by kernel_rfl
theorem qeo:qw Tryz.prog 32 1 1=true:=by kernel_rfl
theorem qbv:qw Tryz.prog 32 2 2=true:=by kernel_rfl
theorem qiZ:qw Tryz.prog 32 3 22=true:=by kernel_rfl
theorem qgQ:qw Tryz.prog 32 4 42=true:=by kernel_rfl
theorem qgP:qw Tryz.prog 34 0 0=true:=by kernel_rfl
theorem ka:qw Tryz.prog 34 1 1=true:=by kernel_rfl
theorem qen:qw Tryz.prog 34 2 2=true:=by kernel_rfl
theorem qgO:qw Tryz.prog 34 3 3=true:=by kernel_rfl
theorem qgN:qw Tryz.prog 37 0 0=true:=by kernel_rfl
theorem ju:qw Tryz.prog 60 0 0=true:=by kernel_rfl
theorem y1:qw Tryz.prog 60 1 1=true:=by kernel_rfl
theorem y0:qw Tryz.prog 60 2 2=true:=by kernel_rfl
theorem vc:qw Tryz.prog 60 3 3=true:=by kernel_rfl
theorem qiY:qw Tryz.prog 62 0 0=true:=by kernel_rfl
theorem qiX:qw Tryz.prog 62 1 1=true:=by kernel_rfl
theorem qbu:qw Tryz.prog 70 0 0=true:=by kernel_rfl
theorem vb:qw Tryz.prog 70 1 2=true:=by kernel_rfl
theorem yZ:qw Tryz.prog 70 2 3=true:=by kernel_rfl
theorem vQ:qw Tryz.prog 70 3 4=true:=by kernel_rfl
theorem va:qw Tryz.prog 70 4 5=true:=by kernel_rfl
theorem j0:qw Tryz.prog 70 5 6=true:=by kernel_rfl
theorem k4:qw Tryz.prog 70 6 26=true:=by kernel_rfl
theorem yY:qw Tryz.prog 70 7 27=true:=by kernel_rfl
theorem yX:qw Tryz.prog 72 0 0=true:=by kernel_rfl
theorem xE:qw Tryz.prog 72 1 1=true:=by kernel_rfl
theorem vP:qw Tryz.prog 72 2 2=true:=by kernel_rfl
theorem xD:qw Tryz.prog 79 0 0=true:=by kernel_rfl
theorem qgM:qw Tryz.prog 79 1 1=true:=by kernel_rfl
theorem qiW:qw Tryz.prog 88 0 0=true:=by kernel_rfl
theorem qbt:qw Tryz.prog 88 1 1=true:=by kernel_rfl
theorem qbs:qw Tryz.prog 88 2 2=true:=by kernel_rfl
theorem vO:qw Tryz.prog 88 3 3=true:=by kernel_rfl
theorem xm:qw Tryz.prog 88 4 4=true:=by kernel_rfl
theorem yW:qw Tryz.prog 88 5 5=true:=by kernel_rfl
theorem qem:qw Tryz.prog 88 6 25=true:=by kernel_rfl
theorem qel:qw Tryz.prog 88 7 26=true:=by kernel_rfl
theorem xG:qw Tryz.prog 100 0 0=true:=by kernel_rfl
theorem vd:qw Tryz.prog 100 1 1=true:=by kernel_rfl
theorem qaO:qw Tryz.prog 100 2 2=true:=by kernel_rfl
theorem xj:qw Tryz.prog 100 3 3=true:=by kernel_rfl
theorem xF:qw Tryz.prog 100 4 4=true:=by kernel_rfl
theorem ja:qw Tryz.prog 100 5 5=true:=by kernel_rfl
theorem jO:qw Tryz.prog 100 6 6=true:=by kernel_rfl
theorem qaN:qw Tryz.prog 105 0 0=true:=by kernel_rfl
theorem qhQ:qw Tryz.prog 105 1 1=true:=by kernel_rfl
theorem qhP:qw Tryz.prog 105 2 2=true:=by kernel_rfl
theorem qj9:qjH Tryz.prog 88=true:=by kernel_rfl
theorem sz3:szB Tryz.prog 3 1=true:=by kernel_rfl
theorem sz4:szB Tryz.prog 4 1=true:=by kernel_rfl
theorem sz9:szB Tryz.prog 9 1=true:=by kernel_rfl
theorem qcu:szB Tryz.prog 30 20=true:=by kernel_rfl
theorem qkC:szB Tryz.prog 34 4=true:=by kernel_rfl
theorem qjE:szB Tryz.prog 37 6=true:=by kernel_rfl
theorem qj8:szB Tryz.prog 57 1=true:=by kernel_rfl
theorem qjD:szB Tryz.prog 58 1=true:=by kernel_rfl
theorem qjC:szB Tryz.prog 62 2=true:=by kernel_rfl
theorem qia:szB Tryz.prog 64 1=true:=by kernel_rfl
theorem qc9:szB Tryz.prog 66 1=true:=by kernel_rfl
theorem qj7:szB Tryz.prog 67 20=true:=by kernel_rfl
theorem qjk:szB Tryz.prog 68 1=true:=by kernel_rfl
theorem zC:szB Tryz.prog 72 22=true:=by kernel_rfl
theorem vB:szB Tryz.prog 79 2=true:=by kernel_rfl
theorem yn:szB Tryz.prog 84 1=true:=by kernel_rfl
theorem qj6:szB Tryz.prog 86 1=true:=by kernel_rfl
theorem zE:szB Tryz.prog 105 3=true:=by kernel_rfl
theorem qcv:szB Tryz.prog 161 256=true:=by kernel_rfl
theorem ze3:xL Tryz.prog 3=some [.int .i64 0]:=by kernel_rfl
theorem qjx:xL Tryz.prog 30=some (List.replicate 20 (.string ⟨#[]⟩)):=by kernel_rfl
theorem qkz:xL Tryz.prog 37=some [.int .i64 0,.int .i64 0,.int .i64 0,.string ⟨#[]⟩,.int .i64 0,.slice none 0 0]:=by kernel_rfl
theorem qky:xL Tryz.prog 62=some [.int .i64 0,.string ⟨#[]⟩]:=by kernel_rfl
theorem qgu:xL Tryz.prog 72=some [.int .i64 0,.bool false,.string ⟨#[]⟩,.string ⟨#[]⟩,.string ⟨#[]⟩,.string ⟨#[]⟩,.string ⟨#[]⟩,.string ⟨#[]⟩,.string ⟨#[]⟩,.string ⟨#[]⟩,.string ⟨#[]⟩,.string ⟨#[]⟩,.string ⟨#[]⟩,.string ⟨#[]⟩,.string ⟨#[]⟩,.string ⟨#[]⟩,.string ⟨#[]⟩,.string ⟨#[]⟩,.string ⟨#[]⟩,.string ⟨#[]⟩,.string ⟨#[]⟩,.string ⟨#[]⟩]:=by kernel_rfl
theorem qkx:xL Tryz.prog 73=some [.int .i64 0,.bool false,.string ⟨#[]⟩,.string ⟨#[]⟩,.string ⟨#[]⟩,.string ⟨#[]⟩,.string ⟨#[]⟩,.string ⟨#[]⟩,.string ⟨#[]⟩,.string ⟨#[]⟩,.string ⟨#[]⟩,.string ⟨#[]⟩,.string ⟨#[]⟩,.string ⟨#[]⟩,.string ⟨#[]⟩,.string ⟨#[]⟩,.string ⟨#[]⟩,.string ⟨#[]⟩,.string ⟨#[]⟩,.string ⟨#[]⟩,.string ⟨#[]⟩,.string ⟨#[]⟩,.int .i64 0,.bool false,.string ⟨#[]⟩,.string ⟨#[]⟩,.string ⟨#[]⟩,.string ⟨#[]⟩,.string ⟨#[]⟩,.string ⟨#[]⟩,.string ⟨#[]⟩,.string ⟨#[]⟩,.string ⟨#[]⟩,.string ⟨#[]⟩,.string ⟨#[]⟩,.string ⟨#[]⟩,.string ⟨#[]⟩,.string ⟨#[]⟩,.string ⟨#[]⟩,.string ⟨#[]⟩,.string ⟨#[]⟩,.string ⟨#[]⟩,.string ⟨#[]⟩,.string ⟨#[]⟩]:=by kernel_rfl
theorem qjw:xL Tryz.prog 79=some [.int .i64 0,.string ⟨#[]⟩]:=by kernel_rfl
theorem qj5:xL Tryz.prog 84=some [.pointer none]:=by kernel_rfl
theorem qe8:xL Tryz.prog 105=some [.int .i64 0,.string ⟨#[]⟩,.int .i64 0]:=by kernel_rfl
theorem qjy:xL Tryz.prog 161=some (List.replicate 256 (.bool false)):=by kernel_rfl
theorem yE (l:List Twrite):Plain (l.map Twrite.row):=by
 intro r hr u hu
 obtain ⟨x,_,rfl⟩:=List.mem_map.1 hr
 simp only [Twrite.row,List.mem_cons,List.not_mem_nil,or_false] at hu
 rcases hu with rfl | rfl <;> rfl
theorem qfo (l:List Trecord):Plain (l.map Trecord.row):=by
 intro r hr u hu
 obtain ⟨x,_,rfl⟩:=List.mem_map.1 hr
 simp only [Trecord.row,List.mem_cons,List.not_mem_nil,or_false] at hu
 rcases hu with rfl | rfl | rfl <;> rfl
theorem zV (l:List TVersion):Plain (l.map TVersion.row):=by
 intro r hr u hu
 obtain ⟨x,_,rfl⟩:=List.mem_map.1 hr
 simp only [TVersion.row,List.mem_cons,List.not_mem_nil,or_false] at hu
 rcases hu with rfl | rfl <;> rfl
theorem qhk (l:List TWish):Plain (l.map TWish.row):=by
 intro r hr u hu
 obtain ⟨x,_,rfl⟩:=List.mem_map.1 hr
 simp only [TWish.row,List.mem_cons,List.not_mem_nil,or_false] at hu
 rcases hu with rfl | rfl | rfl | rfl <;> rfl
theorem qhY:Tryz.prog.eqGuardType Tryz.prog.depth 30=false:=by kernel_rfl
theorem qhD:(Tryz.prog.info? 9).isSome=true:=by kernel_rfl
theorem qhG (z:(List UInt8)):(SR z).length=Tryz.prog.cellsOf 9:=by kernel_rfl
theorem qhg (z:(List UInt8)):shB Tryz.prog 4 9 (SR z)=true:=by kernel_rfl
theorem qd8 (x y:(List UInt8)) (h:SR x=SR y):x=y:=by
 simpa [SR,qiy] using h
set_option maxRecDepth 100000 in
set_option maxHeartbeats 8000000 in
theorem W17 (a0:Int) (A60:(List TDisk)) (gP60:Nat→Nat) (qP60:Nat→List Value) (w:World) (r:((List TDisk)×Int×Int)) (h:M17 a0 A60=some r) (F:List Nat) (hc0:Cls w F [qe gP60 qP60 A60 []] w):zg Tryz.prog 17 [.int .i64 a0] F w fun u m=>∃ G60 Q60,Gr gP60 A60.length G60 r.1.length∧u=.tuple #[VP G60 r.2.1,.int .i64 r.2.2]∧m=[qe G60 Q60 r.1 []]:=by
 rw [M17] at h
 obtain ⟨g60,hg60⟩:∃ g,g=gP60:=⟨_,rfl⟩
 have hGr60:Gr g60 A60.length gP60 A60.length:=hg60 ▸ Gr.refl _ _
 refine body (n:=37) Tryz.func17 rfl rfl rfl hc0 (sr (L.r 2 rfl (ln (W.seq (sr (L.r 1 rfl (L.ite h rfl (Y.lss rfl rfl) (fun c1 h=>?_) (fun c1 h=>?_))))))))
 ·refine L.r 4 rfl (ln (W.condT rfl (sr (L.r 2 rfl (ln (W.ret (E.thenR (E.ret2 rfl rfl rfl (fun w1 hw=>?_)))))))))
  cases h
  exact ⟨_,_,rfl,⟨_,_,(hg60 ▸ hGr60),rfl,rfl⟩,hw⟩
 refine L.r 2 rfl (L.take rfl (L.ite h rfl (Y.gtr rfl rfl) (fun c2 h=>?_) (fun c2 h=>?_)))
 ·refine L.r 1 rfl (ln (W.condT rfl (sr (L.r 2 rfl (ln (W.ret (E.thenR (E.ret2 rfl rfl rfl (fun w1 hw=>?_)))))))))
  cases h
  exact ⟨_,_,rfl,⟨_,_,(hg60 ▸ hGr60),rfl,rfl⟩,hw⟩
 refine L.r 1 rfl (ln (W.condF rfl (W.skip (E.thenN (sr (L.y rfl (Y.build (cells:=#[.slice none 0 0,.slice none 0 0,.slice none 0 0,.int .i64 (-1)]) rfl (by kernel_rfl)) (L.box rfl rfl ?_)))))))
 intro b3
 refine L.r 1 rfl (ln (W.seqJ (fun gs D=>∃ gx1 gP60 gl3 gq4,∃ gu5:Unit,gs=[(4,VP gP60 gx1)]∧D=Cls w F [qe gP60 gq4 gl3 []]∧Gr g60 A60.length gP60 gl3.length∧qgo gx1 gl3=some r) ?_ ?_))
 ·refine sr (L.r 2 rfl (ln (W.block (W.nilSl 9 1 (W.nilSl 9 1 (W.nilSl 62 2 (W.arNew (rowg:=fun g=>TDisk.rowA) (subg:=fun g=>TDisk.subA) (e:=60) (g:=gP60) (gh:=qP60) (l:=A60) (hs:=[]) (b:=b3) (u1:=(⟨[],[],[],(-1)⟩:TDisk)) (vs':=([(.slice none 0 0),(.slice none 0 0),(.slice none 0 0)])) (m':=[]) [3,2,1,0,4] h (by decide) rfl (fun _ h=>nomatch h) (fun _ _ _ _ _=>⟨rfl,rfl⟩) ?_)))))))
  intro gP60 q10 x11 l12 h hg13 hv14 hi15
  rw [hv14]
  replace hGr60:=hGr60.trans hg13
  refine W.to (D:=Cls w F [qe gP60 q10 l12 []]) hI (W.loopJ (fun m gs D=>∃ gx6 gl7 gq8,∃ gu9:Unit,gs=[(4,VP gP60 x11),(13,.int .i64 a0),(14,.int .i64 gx6)]∧D=Cls w F [qe gP60 gq8 gl7 []]∧Gr g60 A60.length gP60 gl7.length∧ye a0 x11 m gx6 gl7=some r) ⟨0,l12,q10,(),rfl,rfl,hGr60,h⟩ ⟨rfl,rfl,rfl,trivial⟩ hI ?_)
  rintro m _ _ ⟨gx6,gl7,gq8,gu9,rfl,rfl,hGr60,h⟩
  rcases m with _ | m
  ·rw [ye] at h;cases h
  rw [ye] at h
  generalize hg1:ye a0 x11 m=go1 at h
  rw [qce] at h
  refine sr (L.ite h rfl (Y.lss rfl rfl) (fun c16 h=>?_) (fun c16 h=>?_))
  ·refine ln (W.seq (W.condT rfl (W.skip (E.thenN (W.seq (W.block ?_))))))
   obtain ⟨th17,eth17,h⟩:=qd h
   refine W.to (D:=Cls w F [.obj (gP60 x11.toNat) [(gv (gq8 x11.toNat) 0),(gv (gq8 x11.toNat) 1),(gv (gq8 x11.toNat) 2),.int .i64 th17.left_] 60,.sl (gv (gq8 x11.toNat) 0) 9 1 (th17.safe_.map SR),.sl (gv (gq8 x11.toNat) 1) 9 1 (th17.seen_.map SR),.sl (gv (gq8 x11.toNat) 2) 62 2 (th17.late_.map Twrite.row),qe gP60 gq8 gl7 (x11.toNat :: [])]) (fun _ hw=>hw.arOpen (p:=0) rfl eth17 List.not_mem_nil) (W.drawn2 (k:=11) (stC [[7,10],[10]] [Cls w F [.obj (gP60 x11.toNat) [(gv (gq8 x11.toNat) 0),(gv (gq8 x11.toNat) 1),(gv (gq8 x11.toNat) 2),.int .i64 th17.left_] 60,.sl (gv (gq8 x11.toNat) 0) 9 1 (th17.safe_.map SR),.sl (gv (gq8 x11.toNat) 1) 9 1 (th17.seen_.map SR),.sl (gv (gq8 x11.toNat) 2) 62 2 (th17.late_.map Twrite.row),qe gP60 gq8 gl7 (x11.toNat :: [])],Cls w F [.obj (gP60 x11.toNat) [(gv (gq8 x11.toNat) 0),(gv (gq8 x11.toNat) 1),(gv (gq8 x11.toNat) 2),.int .i64 th17.left_] 60,.sl (gv (gq8 x11.toNat) 1) 9 1 (th17.seen_.map SR),.sl (gv (gq8 x11.toNat) 2) 62 2 (th17.late_.map Twrite.row),qe gP60 gq8 gl7 (x11.toNat :: [])]] (Cls w F [.sl (gv (gq8 x11.toNat) 1) 9 1 (th17.seen_.map SR),.sl (gv (gq8 x11.toNat) 2) 62 2 (th17.late_.map Twrite.row),qe gP60 gq8 gl7 (x11.toNat :: [])])) rfl mixed (fun _ hw=>hw.drew) (Sc.now (by kernel_rfl) hI) (V2.zz [] (Zc.on' (Zc.on' (Zc.fin hI) (sI [1,2,3])) (sI [2,3,4])) (fun hz31=>(V2.r [0,1] (by kernel_rfl) rfl (V2.apNil (i:=2) (Nx2.of [] (by kernel_rfl) rfl hz31) rfl rfl rfl eth17 (V2.q 3 [] hz31 rfl rfl (Y.fieldP ju rfl) (V2.zz [10] (Zc.on' (Zc.at1 hI) (sI [0,2,3,4])) (fun hz32=>(V2.q 4 [10] hz32 rfl rfl (Y.loadP (i:=0) qde rfl rfl rfl) (V2.eff (i:=5) (by kernel_rfl) rfl ?_))))))))))
   obtain ⟨s33,e34,h⟩:=qd h
   refine L.y rfl (Y.does qjV rfl (fun w' hw=>(qar ([0]) 64 w' _ e34).mono (fun _ _ h=>h.1))) (L.nil (E.toV2 (stC [[7,10],[10]] [Cls w F [.obj (gP60 x11.toNat) [(gv (gq8 x11.toNat) 0),(gv (gq8 x11.toNat) 1),(gv (gq8 x11.toNat) 2),.int .i64 th17.left_] 60,.sl (gv (gq8 x11.toNat) 0) 9 1 (th17.safe_.map SR),.sl (gv (gq8 x11.toNat) 1) 9 1 (th17.seen_.map SR),.sl (gv (gq8 x11.toNat) 2) 62 2 (th17.late_.map Twrite.row),qe gP60 gq8 gl7 (x11.toNat :: [])],Cls w F [.obj (gP60 x11.toNat) [(gv (gq8 x11.toNat) 0),(gv (gq8 x11.toNat) 1),(gv (gq8 x11.toNat) 2),.int .i64 th17.left_] 60,.sl (gv (gq8 x11.toNat) 1) 9 1 (th17.seen_.map SR),.sl (gv (gq8 x11.toNat) 2) 62 2 (th17.late_.map Twrite.row),qe gP60 gq8 gl7 (x11.toNat :: [])]] (Cls w F [.sl (gv (gq8 x11.toNat) 1) 9 1 (th17.seen_.map SR),.sl (gv (gq8 x11.toNat) 2) 62 2 (th17.late_.map Twrite.row),qe gP60 gq8 gl7 (x11.toNat :: [])])) 5 (by kernel_rfl) (Sc.stay hI (Sc.stay hI (Sc.stayD hI))) (Sc.now (by kernel_rfl) hI) (V2.eff (i:=6) (by kernel_rfl) rfl (L.litOne rfl Tryz.underlying57 eL9 rfl rfl ?_))))
   intro b35
   refine L.nil (E.toV2 (stC [[7,10],[10]] [Cls w F [.sl (sv b35 1) 9 1 (([s33]).map SR),.obj (gP60 x11.toNat) [(gv (gq8 x11.toNat) 0),(gv (gq8 x11.toNat) 1),(gv (gq8 x11.toNat) 2),.int .i64 th17.left_] 60,.sl (gv (gq8 x11.toNat) 0) 9 1 (th17.safe_.map SR),.sl (gv (gq8 x11.toNat) 1) 9 1 (th17.seen_.map SR),.sl (gv (gq8 x11.toNat) 2) 62 2 (th17.late_.map Twrite.row),qe gP60 gq8 gl7 (x11.toNat :: [])],Cls w F [.sl (sv b35 1) 9 1 (([s33]).map SR),.obj (gP60 x11.toNat) [(gv (gq8 x11.toNat) 0),(gv (gq8 x11.toNat) 1),(gv (gq8 x11.toNat) 2),.int .i64 th17.left_] 60,.sl (gv (gq8 x11.toNat) 1) 9 1 (th17.seen_.map SR),.sl (gv (gq8 x11.toNat) 2) 62 2 (th17.late_.map Twrite.row),qe gP60 gq8 gl7 (x11.toNat :: [])]] (Cls w F [.sl (sv b35 1) 9 1 (([s33]).map SR),.sl (gv (gq8 x11.toNat) 1) 9 1 (th17.seen_.map SR),.sl (gv (gq8 x11.toNat) 2) 62 2 (th17.late_.map Twrite.row),qe gP60 gq8 gl7 (x11.toNat :: [])])) 6 (by kernel_rfl) (Sc.stay (sI [1,2,3,4,5]) (Sc.stay (sI [1,2,3,4]) (Sc.stayD (sI [1,2,3])))) (Sc.now (by kernel_rfl) hI) (V2.eff (i:=7) (by kernel_rfl) rfl (L.appM (i:=2) (g:=SR) (l:=th17.safe_) (more:=[s33]) h rfl Tryz.underlying57 eL9 rfl rfl rfl (fun w hw=>As.at_ (hw.get (i:=0) rfl)) (qv _) rfl ?_)))
   intro v36 l37 el37 h
   refine L.nil (E.toV2 (stC [[10]] [Cls w F [.sl v36 9 1 (l37.map SR),.sl (sv b35 1) 9 1 (([s33]).map SR),.obj (gP60 x11.toNat) [(gv (gq8 x11.toNat) 0),(gv (gq8 x11.toNat) 1),(gv (gq8 x11.toNat) 2),.int .i64 th17.left_] 60,.sl (gv (gq8 x11.toNat) 1) 9 1 (th17.seen_.map SR),.sl (gv (gq8 x11.toNat) 2) 62 2 (th17.late_.map Twrite.row),qe gP60 gq8 gl7 (x11.toNat :: [])]] (Cls w F [.sl v36 9 1 (l37.map SR),.sl (sv b35 1) 9 1 (([s33]).map SR),.sl (gv (gq8 x11.toNat) 1) 9 1 (th17.seen_.map SR),.sl (gv (gq8 x11.toNat) 2) 62 2 (th17.late_.map Twrite.row),qe gP60 gq8 gl7 (x11.toNat :: [])])) 7 (by kernel_rfl) (Sc.past rfl (Sc.stay (sI [1,2,3,4,5]) (Sc.stayD (sI [1,2,3,4])))) (Sc.now (by kernel_rfl) hI) (V2.zz [] (Zc.on' (Zc.fin hI) (sI [0,1,3,4,5])) (fun hz38=>(V2.apNil (i:=8) (Nx2.of [] (by kernel_rfl) rfl hz38) rfl rfl rfl eth17 (V2.q 9 [] hz38 rfl rfl (Y.fieldP ju rfl) (V2.eff (i:=10) (by kernel_rfl) rfl (L.storeV (i:=2) qj8 rfl rfl (fun _ hw=>(As.at_ (hw.get (i:=0) rfl)).one) rfl nb (L.nil (E.toV2 (stC [] [] (Cls w F [.sl v36 9 1 (l37.map SR),.sl (sv b35 1) 9 1 (([s33]).map SR),.sl (gv (gq8 x11.toNat) 1) 9 1 (th17.seen_.map SR),.sl (gv (gq8 x11.toNat) 2) 62 2 (th17.late_.map Twrite.row),qe gP60 gq8 gl7 (x11.toNat :: [])])) 10 (by kernel_rfl) (Sc.past rfl (Sc.stayD hI)) (Sc.atD (sI [0,1,3,4,5])) (V2.done (by kernel_rfl) (E.blockN (E.thenN (W.region (L.m (V:=fun x39=>.int .i64 x39) h rfl (Y.addM rfl rfl) (fun x39 ex39 h=>?_)))))))))))))))
   refine L.r 1 rfl (L.nil ?_)
   obtain ⟨l40,el40,h⟩:=qd h
   refine E.arClose (row:=TDisk.rowA) (sub:=TDisk.subA) (e:=60) (g:=gP60) (gh:=gq8) (vs':=[v36,(gv (gq8 x11.toNat) 1),(gv (gq8 x11.toNat) 2)]) (hs:=[]) (hs':=(x11.toNat :: [])) (m':=[.sl (sv b35 1) 9 1 (([s33]).map SR)]) [2,0,3,4,5,1] el40 (by decide) rfl (fun _=>List.mem_cons) List.not_mem_nil ?_
   intro q41
   replace hGr60:=hGr60.upd el40
   exact E.to (D:=Cls w F [qe gP60 q41 l40 [],.sl (sv b35 1) 9 1 (([s33]).map SR)]) hI (E.aJ ⟨x39,l40,q41,(),rfl,rfl,hGr60,by rw [hg1];exact h⟩ (sI [0]))
  exact ln (W.seq (W.condF rfl (W.exit (E.thenX (E.KLX (E.blockX (E.jJ ⟨x11,gP60,gl7,gq8,(),rfl,rfl,hGr60,h⟩ hI)))))))
 rintro _ _ ⟨gx1,gP60,gl3,gq4,gu5,rfl,rfl,hGr60,h⟩
 rw [qgo] at h
 refine sr (L.r 1 rfl (L.lit0 rfl Tryz.underlying57 eL9 ?_))
 intro b4
 refine L.r 1 rfl ?_
 obtain ⟨th5,eth5,h⟩:=qd h
 refine L.to (D:=Cls w F [.obj (gP60 gx1.toNat) [(gv (gq4 gx1.toNat) 0),(gv (gq4 gx1.toNat) 1),(gv (gq4 gx1.toNat) 2),.int .i64 th5.left_] 60,.sl (gv (gq4 gx1.toNat) 0) 9 1 (th5.safe_.map SR),.sl (gv (gq4 gx1.toNat) 1) 9 1 (th5.seen_.map SR),.sl (gv (gq4 gx1.toNat) 2) 62 2 (th5.late_.map Twrite.row),qe gP60 gq4 gl3 (gx1.toNat :: []),.sl (sv b4 0) 9 1 ([].map SR)]) (fun _ hw=>hw.arOpen (p:=1) rfl eth5 List.not_mem_nil) (L.y rfl (Y.apNil rfl eth5) (L.y rfl (Y.fieldP ju rfl) (L.y rfl (Y.loadP (i:=0) qde rfl rfl rfl) (L.appM (i:=5) (g:=SR) (l:=[]) (more:=th5.safe_) h rfl Tryz.underlying57 eL9 rfl rfl rfl (fun w hw=>As.at_ (hw.get (i:=1) rfl)) (qv _) rfl ?_))))
 intro v6 l7 el7 h
 refine L.y rfl (Y.apNil rfl eth5) (L.y rfl (Y.fieldP y1 rfl) (L.storeV (i:=1) qj8 rfl rfl (fun _ hw=>(As.at_ (hw.get (i:=0) rfl)).one) rfl nb (nsr (L.r 3 rfl (ln (W.ret ?_))))))
 obtain ⟨l8,el8,h⟩:=qd h
 refine E.arClose (row:=TDisk.rowA) (sub:=TDisk.subA) (e:=60) (g:=gP60) (gh:=gq4) (vs':=[(gv (gq4 gx1.toNat) 0),v6,(gv (gq4 gx1.toNat) 2)]) (hs:=[]) (hs':=(gx1.toNat :: [])) (m':=[.sl (gv (gq4 gx1.toNat) 1) 9 1 (th5.seen_.map SR)]) [1,2,0,4,5,3] el8 (by decide) rfl (fun _=>List.mem_cons) List.not_mem_nil ?_
 intro q9
 replace hGr60:=hGr60.upd el8
 refine E.to (D:=Cls w F [qe gP60 q9 l8 [],.sl (gv (gq4 gx1.toNat) 1) 9 1 (th5.seen_.map SR)]) hI (E.ret2 rfl rfl rfl (fun w1 hw=>?_))
 cases h
 exact ⟨_,_,rfl,⟨_,_,(hg60 ▸ hGr60),rfl,rfl⟩,hw.s [0]⟩
set_option maxRecDepth 100000 in
set_option maxHeartbeats 8000000 in
theorem W20 (a0:Int) (A60:(List TDisk)) (gP60:Nat→Nat) (qP60:Nat→List Value) (w:World) (r:Int) (h:M20 a0 A60=some r) (F:List Nat) (hc0:Cls w F [qe gP60 qP60 A60 []] w):zg Tryz.prog 20 [VP gP60 a0] F w fun u m=>u=.int .i64 r∧m=[qe gP60 qP60 A60 []]:=by
 rw [M20] at h
 refine body (n:=8) Tryz.func20 rfl rfl rfl hc0 (sr (L.r 1 rfl (nsr (L.r 1 rfl ?_))))
 obtain ⟨th1,eth1,h⟩:=qd h
 refine L.to (D:=Cls w F [.obj (gP60 a0.toNat) [(gv (qP60 a0.toNat) 0),(gv (qP60 a0.toNat) 1),(gv (qP60 a0.toNat) 2),.int .i64 th1.left_] 60,.sl (gv (qP60 a0.toNat) 0) 9 1 (th1.safe_.map SR),.sl (gv (qP60 a0.toNat) 1) 9 1 (th1.seen_.map SR),.sl (gv (qP60 a0.toNat) 2) 62 2 (th1.late_.map Twrite.row),qe gP60 qP60 A60 (a0.toNat :: [])]) (fun _ hw=>hw.arOpen (p:=0) rfl eth1 List.not_mem_nil) (L.y rfl (Y.apNil rfl eth1) (L.y rfl (Y.fieldP ju rfl) (L.y rfl (Y.loadP (i:=0) qde rfl rfl rfl) (L.y rfl (Y.lenM (g:=SR) (l:=th1.safe_) Tryz.underlying57 rfl (fun w hw=>As.at_ (hw.get (i:=1) rfl))) (L.r 1 rfl (ln (W.ret (E.to (D:=Cls w F [qe gP60 qP60 A60 []]) (fun _ hw=>hw.arShut (hs':=(a0.toNat :: [])) [0,1,2,3,4] eth1 (by decide) rfl (fun _=>List.mem_cons) List.not_mem_nil) (E.ret1 rfl rfl (fun w1 hw=>?_))))))))))
 cases h
 exact ⟨_,_,rfl,⟨rfl,rfl⟩,hw⟩
set_option maxRecDepth 100000 in
set_option maxHeartbeats 8000000 in
theorem W37 (a0:Int) (a1:Int) (A60:(List TDisk)) (gP60:Nat→Nat) (qP60:Nat→List Value) (w:World) (r:((List UInt8)×Int)) (h:M37 a0 a1 A60=some r) (F:List Nat) (hc0:Cls w F [qe gP60 qP60 A60 []] w):zg Tryz.prog 37 [VP gP60 a0,.int .i64 a1] F w fun u m=>u=.tuple #[st r.1,.int .i64 r.2]∧m=[qe gP60 qP60 A60 []]:=by
 rw [M37] at h
 refine body (n:=29) Tryz.func37 rfl rfl rfl hc0 (sr (L.r 2 rfl (ln (W.seq (sr (L.r 1 rfl (L.ite h rfl (Y.lss rfl rfl) (fun c1 h=>?_) (fun c1 h=>?_))))))))
 ·refine L.r 9 rfl (ln (W.condT rfl (sr (L.r 2 rfl (ln (W.ret (E.thenR (E.ret2 rfl rfl rfl (fun w1 hw=>?_)))))))))
  cases h
  exact ⟨_,_,rfl,⟨rfl,rfl⟩,hw⟩
 refine L.r 3 rfl (L.take rfl ?_)
 obtain ⟨th2,eth2,h⟩:=qd h
 refine L.to (D:=Cls w F [.obj (gP60 a0.toNat) [(gv (qP60 a0.toNat) 0),(gv (qP60 a0.toNat) 1),(gv (qP60 a0.toNat) 2),.int .i64 th2.left_] 60,.sl (gv (qP60 a0.toNat) 0) 9 1 (th2.safe_.map SR),.sl (gv (qP60 a0.toNat) 1) 9 1 (th2.seen_.map SR),.sl (gv (qP60 a0.toNat) 2) 62 2 (th2.late_.map Twrite.row),qe gP60 qP60 A60 (a0.toNat :: [])]) (fun _ hw=>hw.arOpen (p:=0) rfl eth2 List.not_mem_nil) (L.y rfl (Y.apNil rfl eth2) (L.take rfl (L.y rfl (Y.fieldP ju rfl) (L.take rfl (L.y rfl (Y.loadP (i:=0) qde rfl rfl rfl) (L.take rfl (L.y rfl (Y.lenM (g:=SR) (l:=th2.safe_) Tryz.underlying57 rfl (fun w hw=>As.at_ (hw.get (i:=1) rfl))) (L.take rfl (L.ite h rfl (Y.geq rfl rfl) (fun c3 h=>?_) (fun c3 h=>?_))))))))))
 ·refine L.r 1 rfl (ln (W.condT rfl (sr (L.r 2 rfl (ln (W.ret (E.thenR (E.to (D:=Cls w F [qe gP60 qP60 A60 []]) (fun _ hw=>hw.arShut (hs':=(a0.toNat :: [])) [0,1,2,3,4] eth2 (by decide) rfl (fun _=>List.mem_cons) List.not_mem_nil) (E.ret2 rfl rfl rfl (fun w1 hw=>?_))))))))))
  cases h
  exact ⟨_,_,rfl,⟨rfl,rfl⟩,hw⟩
 refine L.r 1 rfl (ln (W.condF rfl (W.skip (E.thenN (W.seq (sr (L.r 1 rfl (L.y rfl (Y.apNil rfl eth2) (L.y rfl (Y.fieldP vc rfl) (L.y rfl (Y.loadP (i:=0) ag3 rfl rfl rfl) (L.ite h rfl (Y.eql rfl rfl) (fun c4 h=>?_) (fun c4 h=>?_))))))))))))
 ·refine ln (W.condT rfl (sr (L.r 2 rfl (ln (W.ret (E.thenR (E.to (D:=Cls w F [qe gP60 qP60 A60 []]) (fun _ hw=>hw.arShut (hs':=(a0.toNat :: [])) [0,1,2,3,4] eth2 (by decide) rfl (fun _=>List.mem_cons) List.not_mem_nil) (E.ret2 rfl rfl rfl (fun w1 hw=>?_)))))))))
  cases h
  exact ⟨_,_,rfl,⟨rfl,rfl⟩,hw⟩
 refine ln (W.condF rfl (W.skip (E.thenN (sr (L.r 1 rfl (L.y rfl (Y.apNil rfl eth2) (L.y rfl (Y.fieldP y1 rfl) (L.y rfl (Y.loadP (i:=0) qde rfl rfl rfl) (L.r 1 rfl (L.m (V:=fun _=>el (gv (qP60 a0.toNat) 1) (a1.toNat*1)) h rfl (Y.indexM (g:=SR) (l:=th2.seen_) Tryz.underlying57 sz9 rfl rfl (fun w hw=>As.at_ (hw.get (i:=2) rfl))) (fun x5 ex5 h=>(L.y rfl (Y.loadE1 (u:=st x5) ag9 rfl (fun w hw=>As.at_ (hw.get (i:=2) rfl)) (qx ex5)) ?_))))))))))))
 refine L.r 2 rfl (ln (W.ret (E.to (D:=Cls w F [qe gP60 qP60 A60 []]) (fun _ hw=>hw.arShut (hs':=(a0.toNat :: [])) [0,1,2,3,4] eth2 (by decide) rfl (fun _=>List.mem_cons) List.not_mem_nil) (E.ret2 rfl rfl rfl (fun w1 hw=>?_)))))
 cases h
 exact ⟨_,_,rfl,⟨rfl,rfl⟩,hw⟩
set_option maxRecDepth 100000 in
set_option maxHeartbeats 8000000 in
theorem W86 (a0:(List UInt8)) (a1:Int) (w:World) (r:(List UInt8)) (h:M86 a0 a1=some r):Does Tryz.prog 86 [st a0,.int .u8 a1] w fun u m=>u=st r∧m=[]:=by
 rw [M86] at h
 refine body (n:=23) Tryz.func86 rfl rfl rfl (Cls.refl w) (sr (L.r 1 rfl (ln (W.seqJ (fun gs D=>∃ gs1,gs=[(0,st gs1)]∧D=Cls w [] []∧qeK gs1=some r) ?_ ?_))))
 ·refine W.block (W.loopJ (fun m gs D=>∃ gs2,gs=[(0,st gs2),(1,.int .u8 a1)]∧D=Cls w [] []∧wN a1 m gs2=some r) ⟨a0,rfl,rfl,h⟩ ⟨rfl,rfl,trivial⟩ hI ?_)
  rintro m _ _ ⟨gs2,rfl,rfl,h⟩
  rcases m with _ | m
  ·rw [wN] at h;cases h
  rw [wN] at h
  generalize hg1:wN a1 m=go1 at h
  rw [qbH] at h
  refine W.seq (sr (L.r 1 rfl (L.y rfl (Y.lenS Tryz.underlying9 rfl) (L.ite h rfl (Y.gtr rfl rfl) (fun c1 h=>?_) (fun c1 h=>?_)))))
  ·refine L.r 3 rfl (L.take rfl (L.y rfl (Y.lenS Tryz.underlying9 rfl) (L.take rfl (L.m (V:=fun x2=>.int .i64 x2) h rfl (Y.subM rfl rfl) (fun x2 ex2 h=>(L.take rfl (L.m (V:=fun x3=>.int .u8 x3) h rfl (Y.indexSM Tryz.underlying9 rfl rfl) (fun x3 ex3 h=>(L.r 1 rfl (L.take rfl (L.ite h rfl (Y.eql rfl rfl) (fun c4 h=>?_) (fun c4 h=>?_))))))))))))
   ·exact L.r 1 rfl (ln (W.condT rfl (W.skip (E.thenN (W.block (W.region (L.r 2 rfl (L.y rfl (Y.lenS Tryz.underlying9 rfl) (L.m (V:=fun x5=>.int .i64 x5) h rfl (Y.subM rfl rfl) (fun x5 ex5 h=>(L.m (V:=fun s6=>st s6) h rfl (Y.sliceSH Tryz.underlying9 rfl rfl) (fun s6 es6 h=>(L.r 1 rfl (L.nil (E.blockN (E.aJ ⟨s6,rfl,rfl,by rw [hg1];exact h⟩ hI))))))))))))))))
   exact L.r 1 rfl (ln (W.condF rfl (W.exit (E.thenX (E.KLX (E.blockX (E.jJ ⟨gs2,rfl,rfl,h⟩ hI)))))))
  exact L.r 9 rfl (ln (W.condF rfl (W.exit (E.thenX (E.KLX (E.blockX (E.jJ ⟨gs2,rfl,rfl,h⟩ hI)))))))
 rintro _ _ ⟨gs1,rfl,rfl,h⟩
 rw [qeK] at h
 refine sr (L.r 2 rfl (ln (W.ret (E.ret1 rfl rfl (fun w1 hw=>?_)))))
 cases h
 exact ⟨_,_,rfl,⟨rfl,rfl⟩,hw⟩
set_option maxRecDepth 100000 in
set_option maxHeartbeats 8000000 in
theorem W85 (a0:(List UInt8)) (a1:Int) (w:World) (r:(List UInt8)) (h:M85 a0 a1=some r):Does Tryz.prog 85 [st a0,.int .u8 a1] w fun u m=>u=st r∧m=[]:=by
 rw [M85] at h
 refine body (n:=17) Tryz.func85 rfl rfl rfl (Cls.refl w) (sr (L.r 1 rfl (ln (W.seqJ (fun gs D=>∃ gs1,gs=[(0,st gs1)]∧D=Cls w [] []∧qeL gs1=some r) ?_ ?_))))
 ·refine W.block (W.loopJ (fun m gs D=>∃ gs2,gs=[(0,st gs2),(1,.int .u8 a1)]∧D=Cls w [] []∧wO a1 m gs2=some r) ⟨a0,rfl,rfl,h⟩ ⟨rfl,rfl,trivial⟩ hI ?_)
  rintro m _ _ ⟨gs2,rfl,rfl,h⟩
  rcases m with _ | m
  ·rw [wO] at h;cases h
  rw [wO] at h
  generalize hg1:wO a1 m=go1 at h
  rw [qbI] at h
  refine W.seq (sr (L.r 1 rfl (L.y rfl (Y.lenS Tryz.underlying9 rfl) (L.ite h rfl (Y.gtr rfl rfl) (fun c1 h=>?_) (fun c1 h=>?_)))))
  ·refine L.r 2 rfl (L.take rfl (L.m (V:=fun x2=>.int .u8 x2) h rfl (Y.indexSM Tryz.underlying9 rfl rfl) (fun x2 ex2 h=>(L.r 1 rfl (L.take rfl (L.ite h rfl (Y.eql rfl rfl) (fun c3 h=>?_) (fun c3 h=>?_)))))))
   ·exact L.r 1 rfl (ln (W.condT rfl (W.skip (E.thenN (W.block (W.region (L.r 1 rfl (L.m (V:=fun s4=>st s4) h rfl (Y.sliceSL Tryz.underlying9 rfl rfl) (fun s4 es4 h=>(L.r 1 rfl (L.nil (E.blockN (E.aJ ⟨s4,rfl,rfl,by rw [hg1];exact h⟩ hI)))))))))))))
   exact L.r 1 rfl (ln (W.condF rfl (W.exit (E.thenX (E.KLX (E.blockX (E.jJ ⟨gs2,rfl,rfl,h⟩ hI)))))))
  exact L.r 6 rfl (ln (W.condF rfl (W.exit (E.thenX (E.KLX (E.blockX (E.jJ ⟨gs2,rfl,rfl,h⟩ hI)))))))
 rintro _ _ ⟨gs1,rfl,rfl,h⟩
 rw [qeL] at h
 refine sr (L.r 2 rfl (ln (W.ret (E.ret1 rfl rfl (fun w1 hw=>?_)))))
 cases h
 exact ⟨_,_,rfl,⟨rfl,rfl⟩,hw⟩
set_option maxRecDepth 100000 in
set_option maxHeartbeats 8000000 in
theorem W87 (a0:(List UInt8)) (w:World) (r:((List Bool)×Bool)) (h:M87 a0=some r):Does Tryz.prog 87 [st a0] w fun u m=>u=.tuple #[.agg (r.1.map B).flatten.toArray,.bool r.2]∧m=[]:=by
 rw [M87] at h
 refine body (n:=21) Tryz.func87 rfl rfl rfl (Cls.refl w) (sr (L.alloc rfl qjy ?_))
 intro b1
 refine L.to (D:=Cls w [] [.obj b1 (((List.replicate 256 (false:Bool)).map B).flatten) 161]) (fun _ hw=>by first | exact hw | simpa [I,B,SR] using hw) (L.r 1 rfl (ln (W.seqJ (fun gs D=>∃ gl1,gs=[(2,pt b1 0)]∧D=Cls w [] [.obj b1 ((gl1.map B).flatten) 161]∧qh2 gl1=some r) ?_ ?_)))
 ·refine sr (L.r 1 rfl (ln (W.block (W.loopJ (fun m gs D=>∃ gx2 gl3,gs=[(0,st a0),(2,pt b1 0),(4,.int .i64 gx2)]∧D=Cls w [] [.obj b1 ((gl3.map B).flatten) 161]∧qcT a0 m gx2 gl3=some r) ⟨0,(List.replicate 256 (false:Bool)),rfl,rfl,h⟩ ⟨rfl,rfl,rfl,trivial⟩ hI ?_))))
  rintro m _ _ ⟨gx2,gl3,rfl,rfl,h⟩
  rcases m with _ | m
  ·rw [qcT] at h;cases h
  rw [qcT] at h
  generalize hg1:qcT a0 m=go1 at h
  rw [qg0] at h
  refine W.seq (sr (L.r 2 rfl (L.y rfl (Y.lenS Tryz.underlying9 rfl) (L.ite h rfl (Y.lss rfl rfl) (fun c6 h=>?_) (fun c6 h=>?_)))))
  ·refine ln (W.condT rfl (W.skip (E.thenN (W.seq (W.block (sr (L.r 2 rfl (L.m (V:=fun x7=>.int .u8 x7) h rfl (Y.indexSM Tryz.underlying9 rfl rfl) (fun x7 ex7 h=>(L.r 1 rfl (ln ?_)))))))))))
   refine W.seq (sr (L.r 1 rfl (L.ite h rfl (Y.geq rfl rfl) (fun c8 h=>?_) (fun c8 h=>?_))))
   ·refine ln (W.condT rfl (sr ?_))
    obtain ⟨_,en9,h⟩:=qd h
    obtain ⟨_,en9⟩:=qh en9
    refine L.y rfl (Y.loadArAll (q:=0) (row:=B) (k:=1) qf1 qcv rfl rfl (fun _=>rfl) (by rw [en9])) ?_
    obtain ⟨_,qhX,h⟩:=qd h
    obtain ⟨_,qhX⟩:=qh qhX
    obtain ⟨_,qgT,h⟩:=qd h
    obtain ⟨_,qgT⟩:=qh qgT
    refine L.storeArW (i:=0) (row:=B) (k:=1) qhX qgT rfl (fun _=>rfl) (kJ _) qcv rfl rfl rfl (L.r 1 rfl (ln (W.ret (E.thenR (E.blockR (E.thenR (E.KLR (E.blockR (E.KSR ?_)))))))))
    obtain ⟨_,qet,h⟩:=qd h
    obtain ⟨_,qet⟩:=qh qet
    refine E.retR2 rfl (Rv.cellAr (i:=0) (row:=B) (k:=1) qf1 qcv rfl rfl (fun _=>rfl) (by rw [qet])) (Rv.tmp rfl) (fun w1 hw=>?_)
    cases h
    exact ⟨_,_,rfl,⟨rfl,rfl⟩,hw.s []⟩
   refine ln (W.condF rfl (W.skip (E.thenN (W.region (L.r 1 rfl (L.m (V:=fun _=>pt b1 (0+x7.toNat*1)) h rfl (Y.indexAM (l:=gl3) Tryz.underlying161 sz4 rfl rfl) (fun x13 ex13 h=>(L.storeArM (q:=0) (row:=B) (vs:=[.bool true]) (j:=0) (u1:=true) h sz4 rfl rfl rfl rfl rfl (zi rfl zq) rfl (fun _=>rfl) (qt ex13) rfl rfl ?_))))))))
   intro l14 el14 h
   exact L.nil (E.blockN (E.thenN (W.region (L.r 1 rfl (L.m (V:=fun x15=>.int .i64 x15) h rfl (Y.addM rfl rfl) (fun x15 ex15 h=>(L.r 1 rfl (L.nil (E.aJ ⟨x15,l14,rfl,rfl,by rw [hg1];exact h⟩ hI)))))))))
  exact ln (W.condF rfl (W.exit (E.thenX (E.KLX (E.blockX (E.jJ ⟨gl3,rfl,rfl,h⟩ hI))))))
 rintro _ _ ⟨gl1,rfl,rfl,h⟩
 rw [qh2] at h
 refine sr ?_
 obtain ⟨_,en2,h⟩:=qd h
 obtain ⟨_,en2⟩:=qh en2
 refine L.y rfl (Y.loadArAll (q:=0) (row:=B) (k:=1) qf1 qcv rfl rfl (fun _=>rfl) (by rw [en2])) ?_
 obtain ⟨_,en3,h⟩:=qd h
 obtain ⟨_,en3⟩:=qh en3
 obtain ⟨_,en4,h⟩:=qd h
 obtain ⟨_,en4⟩:=qh en4
 refine L.storeArW (i:=0) (row:=B) (k:=1) en3 en4 rfl (fun _=>rfl) (kJ _) qcv rfl rfl rfl (L.r 1 rfl (ln (W.ret ?_)))
 obtain ⟨_,en5,h⟩:=qd h
 obtain ⟨_,en5⟩:=qh en5
 refine E.retR2 rfl (Rv.cellAr (i:=0) (row:=B) (k:=1) qf1 qcv rfl rfl (fun _=>rfl) (by rw [en5])) (Rv.tmp rfl) (fun w1 hw=>?_)
 cases h
 exact ⟨_,_,rfl,⟨rfl,rfl⟩,hw.s []⟩
set_option maxRecDepth 100000 in
set_option maxHeartbeats 8000000 in
theorem qlh (a0:Int) (w:World) (r:Bool) (h:qku a0=some r):Does Tryz.prog 123 [.int .u8 a0] w fun u m=>u=.bool r∧m=[]:=by
 rw [qku] at h
 refine body (n:=6) Tryz.func123 rfl rfl rfl (Cls.refl w) (sr (L.r 1 rfl (nsr (L.r 1 rfl (L.y rfl (Y.and rfl rfl) (L.y rfl (Y.neq rfl rfl) (L.r 1 rfl (ln ?_))))))))
 refine W.ret (E.ret1 rfl rfl (fun w1 hw=>?_))
 cases h
 exact ⟨_,_,rfl,⟨rfl,rfl⟩,hw⟩
set_option maxRecDepth 100000 in
set_option maxHeartbeats 8000000 in
theorem qlg (a0:Int) (w:World) (r:Bool) (h:qkt a0=some r):Does Tryz.prog 126 [.int .i32 a0] w fun u m=>u=.bool r∧m=[]:=by
 rw [qkt] at h
 refine body (n:=17) Tryz.func126 rfl rfl rfl (Cls.refl w) (sr (L.r 1 rfl (ln (W.seq (W.block (sr (L.cutJ 6 (fun gs D=>∃ gb1,gs=[(0,.int .i32 a0),(9,.bool gb1)]∧D=Cls w [] []∧qan a0 gb1=some r) ?_ ?_)))))))
 ·refine L.r 1 rfl (L.ite h rfl (Y.leq rfl rfl) (fun c3 h=>?_) (fun c3 h=>?_))
  ·refine L.r 2 rfl (L.take rfl (L.ite h rfl (Y.lss rfl rfl) (fun c4 h=>?_) (fun c4 h=>?_)))
   ·exact L.r 1 rfl (L.nil (E.jJ ⟨true,rfl,rfl,h⟩ hI))
   exact L.r 1 rfl (L.nil (E.jJ ⟨false,rfl,rfl,h⟩ hI))
  exact L.r 4 rfl (L.nil (E.jJ ⟨false,rfl,rfl,h⟩ hI))
 rintro _ _ ⟨gb1,rfl,rfl,h⟩
 rw [qan] at h
 rcases gb1 with _ | _
 ·replace h:=zZ h
  refine L.r 1 rfl (ln (W.condF rfl (sr (L.cutJ 6 (fun gs D=>∃ gb2,gs=[(16,.bool gb2)]∧D=Cls w [] []∧qam gb2=some r) ?_ ?_))))
  ·refine L.r 1 rfl (L.ite h rfl (Y.lss rfl rfl) (fun c1 h=>?_) (fun c1 h=>?_))
   ·refine L.r 2 rfl (L.take rfl (L.ite h rfl (Y.leq rfl rfl) (fun c2 h=>?_) (fun c2 h=>?_)))
    ·exact L.r 1 rfl (L.nil (E.jJ ⟨true,rfl,rfl,h⟩ hI))
    exact L.r 1 rfl (L.nil (E.jJ ⟨false,rfl,rfl,h⟩ hI))
   exact L.r 4 rfl (L.nil (E.jJ ⟨false,rfl,rfl,h⟩ hI))
  rintro _ _ ⟨gb2,rfl,rfl,h⟩
  rw [qam] at h
  rcases gb2 with _ | _
  ·replace h:=zZ h
   refine L.r 1 rfl (ln (W.condF rfl (W.skip (E.blockN (E.thenN (sr (L.r 1 rfl (ln (W.ret (E.ret1 rfl rfl (fun w1 hw=>?_)))))))))))
   cases h
   exact ⟨_,_,rfl,⟨rfl,rfl⟩,hw⟩
  replace h:=zY h
  refine L.r 1 rfl (ln (W.condT rfl (sr (L.r 1 rfl (ln (W.ret (E.blockR (E.thenR (E.ret1 rfl rfl (fun w1 hw=>?_))))))))))
  cases h
  exact ⟨_,_,rfl,⟨rfl,rfl⟩,hw⟩
 replace h:=zY h
 refine L.r 1 rfl (ln (W.condT rfl (sr (L.r 1 rfl (ln (W.ret (E.blockR (E.thenR (E.ret1 rfl rfl (fun w1 hw=>?_))))))))))
 cases h
 exact ⟨_,_,rfl,⟨rfl,rfl⟩,hw⟩
set_option maxRecDepth 100000 in
set_option maxHeartbeats 8000000 in
theorem qlf (a0:Int) (w:World) (r:Int) (h:qks a0=some r):Does Tryz.prog 127 [.int .i64 a0] w fun u m=>u=.int .i64 r∧m=[]:=by
 rw [qks] at h
 refine body (n:=6) Tryz.func127 rfl rfl rfl (Cls.refl w) (sr (L.r 1 rfl (nsr (L.r 1 rfl (L.m (V:=fun x1=>.int .i64 x1) h rfl (Y.addM rfl rfl) (fun x1 ex1 h=>(L.m (V:=fun x2=>.int .i64 x2) h rfl (Y.quoM rfl rfl) (fun x2 ex2 h=>(L.r 1 rfl (ln ?_))))))))))
 refine W.ret (E.ret1 rfl rfl (fun w1 hw=>?_))
 cases h
 exact ⟨_,_,rfl,⟨rfl,rfl⟩,hw⟩
set_option maxRecDepth 100000 in
set_option maxHeartbeats 8000000 in
theorem W65 (a0:(List UInt8)) (a1:(List UInt8)) (w:World) (r:(List UInt8)) (h:M65 a0 a1=some r):Does Tryz.prog 65 [st a0,st a1] w fun u m=>u=st r∧m=[]:=by
 rw [M65] at h
 refine body (n:=43) Tryz.func65 rfl rfl rfl (Cls.refl w) (sr (L.r 1 rfl (ln (W.seq (sr (L.r 1 rfl (L.ite h rfl (Y.eqlS rfl rfl) (fun c1 h=>?_) (fun c1 h=>?_))))))))
 ·refine L.r 4 rfl (ln (W.condT rfl (sr (L.r 2 rfl (ln (W.ret (E.thenR (E.ret1 rfl rfl (fun w1 hw=>?_)))))))))
  cases h
  exact ⟨_,_,rfl,⟨rfl,rfl⟩,hw⟩
 refine L.r 2 rfl (L.take rfl (L.ite h rfl (Y.eqlS rfl rfl) (fun c2 h=>?_) (fun c2 h=>?_)))
 ·refine L.r 1 rfl (ln (W.condT rfl (sr (L.r 2 rfl (ln (W.ret (E.thenR (E.ret1 rfl rfl (fun w1 hw=>?_)))))))))
  cases h
  exact ⟨_,_,rfl,⟨rfl,rfl⟩,hw⟩
 refine L.r 1 rfl (ln (W.condF rfl (W.skip (E.thenN (W.seq (sr (L.r 1 rfl (L.y rfl (Y.lenS Tryz.underlying9 rfl) (L.ite h rfl (Y.eql rfl rfl) (fun c3 h=>?_) (fun c3 h=>?_))))))))))
 ·refine L.r 2 rfl (L.take rfl (L.m (V:=fun x4=>.int .u8 x4) h rfl (Y.indexSM Tryz.underlying9 rfl rfl) (fun x4 ex4 h=>(L.take rfl (L.ite h rfl (Y.lss rfl rfl) (fun c5 h=>?_) (fun c5 h=>?_))))))
  ·refine L.r 1 rfl (ln (W.condT rfl (W.seq (W.quietC mixed (by kernel_rfl) (fun _ hw=>hw.drew) (fun hC=>(U.r 2 rfl (U.m (V:=fun x6=>.int .u8 x6) h rfl (Y.indexSM Tryz.underlying9 rfl rfl) (fun x6 ex6 h=>?_))))))))
   obtain ⟨s7,e8,h⟩:=qd h
   refine U.y rfl (Y.does qkK rfl (fun w' hw=>(W86 a0 x6 w' _ e8).mono (fun _ _ h=>h.1))) (U.r 1 rfl (U.m (V:=fun x9=>.int .u8 x9) h rfl (Y.indexSM Tryz.underlying9 rfl rfl) (fun x9 ex9 h=>?_)))
   obtain ⟨s10,e11,h⟩:=qd h
   refine U.y rfl (Y.does qkL rfl (fun w' hw=>(W85 s7 x9 w' _ e11).mono (fun _ _ h=>h.1))) (U.r 1 rfl (U.nil (E.thenN (W.ret (E.thenR (E.ret1 rfl rfl (fun w1 hw=>?_)))))))
   cases h
   exact ⟨_,_,rfl,⟨rfl,rfl⟩,hw⟩
  refine L.r 1 rfl (ln (W.condF rfl (W.skip (E.thenN (W.seq (sr (L.r 1 rfl ?_)))))))
  cases h
 refine L.r 5 rfl (ln (W.condF rfl (W.skip (E.thenN (W.seq (sr (L.r 1 rfl ?_)))))))
 cases h
set_option maxRecDepth 100000 in
set_option maxHeartbeats 8000000 in
theorem W68 (a0:(List UInt8)) (w:World) (r:(Int×Int×Int)) (h:M68 a0=some r):Does Tryz.prog 68 [st a0] w fun u m=>u=.tuple #[.int .u64 r.1,.int .i64 r.2.1,.int .i64 r.2.2]∧m=[]:=by
 rw [M68] at h
 refine body (n:=42) Tryz.func68 rfl rfl rfl (Cls.refl w) (sr (L.r 3 rfl (nsr (L.r 1 rfl (ln (W.seqJ (fun gs D=>gs=[]∧D=Cls w [] []∧qgd=some r) ?_ ?_))))))
 ·refine sr (L.r 1 rfl (L.y rfl (Y.lenS Tryz.underlying9 rfl) (L.r 1 rfl (ln (W.block (W.loopJ (fun m gs D=>∃ gx1 gx2,gs=[(0,st a0),(5,.int .u64 gx1),(9,.int .i64 (a0.length:Int)),(10,.int .i64 gx2)]∧D=Cls w [] []∧ki a0 m gx1 gx2=some r) ⟨0,0,rfl,rfl,h⟩ ⟨rfl,rfl,rfl,rfl,trivial⟩ hI ?_))))))
  rintro m _ _ ⟨gx1,gx2,rfl,rfl,h⟩
  rcases m with _ | m
  ·rw [ki] at h;cases h
  rw [ki] at h
  generalize hg1:ki a0 m=go1 at h
  rw [qad] at h
  refine sr (L.ite h rfl (Y.lss rfl rfl) (fun c1 h=>?_) (fun c1 h=>?_))
  ·refine ln (W.seq (W.condT rfl (W.skip (E.thenN (W.seq (W.block (sr (L.r 2 rfl (ln (W.seq ?_))))))))))
   refine W.region (L.r 2 rfl (L.m (V:=fun x2=>.int .u8 x2) h rfl (Y.indexSM Tryz.underlying9 rfl rfl) (fun x2 ex2 h=>(L.r 1 rfl (ln (W.seqJ (fun gs D=>gs=[(0,st a0),(5,.int .u64 gx1),(6,.int .i64 gx2),(7,.int .u8 x2),(9,.int .i64 (a0.length:Int)),(10,.int .i64 gx2)]∧D=Cls w [] []∧qae gx2 x2 gx1 go1=some r) ?_ ?_))))))
   ·refine sr (L.r 1 rfl (L.ite h rfl (Y.eql rfl rfl) (fun c11 h=>?_) (fun c11 h=>?_)))
    ·refine L.r 2 rfl (L.take rfl (L.ite h rfl (Y.gtr rfl rfl) (fun c12 h=>?_) (fun c12 h=>?_)))
     ·refine L.r 1 rfl (ln (W.condT rfl (sr (L.r 3 rfl (ln (W.ret (E.KSR (E.blockR (E.thenR (E.KLR ?_))))))))))
      refine E.blockR (E.KSR (E.ret3 rfl rfl rfl rfl (fun w1 hw=>?_)))
      cases h
      exact ⟨_,_,rfl,⟨rfl,rfl⟩,hw⟩
     exact L.r 1 rfl (ln (W.condF rfl (W.skip (E.jJ ⟨rfl,rfl,h⟩ hI))))
    exact L.r 4 rfl (ln (W.condF rfl (W.skip (E.jJ ⟨rfl,rfl,h⟩ hI))))
   rintro _ _ ⟨rfl,rfl,h⟩
   rw [qae] at h
   refine sr (L.r 2 rfl (L.y rfl (Y.and rfl rfl) (L.y rfl (Y.conv Tryz.underlying5 Tryz.underlying114 rfl) (L.r 1 rfl (L.m (V:=fun x3=>.int .i64 x3) h rfl (Y.mulM rfl rfl) (fun x3 ex3 h=>(L.m (V:=fun x4=>.int .u64 x4) h rfl (Y.shlM rfl rfl) (fun x4 ex4 h=>(L.y rfl (Y.or rfl rfl) (L.r 1 rfl (nsr ?_)))))))))))
   refine L.r 1 rfl (L.ite h rfl (Y.lss rfl rfl) (fun c5 h=>?_) (fun c5 h=>?_))
   ·refine ln (W.condT rfl (W.seq (sr (L.r 1 rfl (L.ite h rfl (Y.eql rfl rfl) (fun c6 h=>?_) (fun c6 h=>?_))))))
    ·refine L.r 2 rfl (L.take rfl (L.ite h rfl (Y.gtr rfl rfl) (fun c7 h=>?_) (fun c7 h=>?_)))
     ·refine L.r 1 rfl (ln (W.condT rfl (sr (L.r 3 rfl (ln (W.ret (E.thenR (E.blockR (E.thenR (E.KLR ?_))))))))))
      refine E.blockR (E.KSR (E.ret3 rfl rfl rfl rfl (fun w1 hw=>?_)))
      cases h
      exact ⟨_,_,rfl,⟨rfl,rfl⟩,hw⟩
     refine L.r 1 rfl (ln (W.condF rfl (W.skip (E.thenN (sr (L.r 2 rfl (L.m (V:=fun x8=>.int .i64 x8) h rfl (Y.addM rfl rfl) (fun x8 ex8 h=>(L.r 3 rfl (ln (W.ret ?_)))))))))))
     refine E.blockR (E.thenR (E.KLR (E.blockR (E.KSR (E.ret3 rfl rfl rfl rfl (fun w1 hw=>?_))))))
     cases h
     exact ⟨_,_,rfl,⟨rfl,rfl⟩,hw⟩
    refine L.r 4 rfl (ln (W.condF rfl (W.skip (E.thenN (sr (L.r 2 rfl (L.m (V:=fun x9=>.int .i64 x9) h rfl (Y.addM rfl rfl) (fun x9 ex9 h=>(L.r 3 rfl (ln (W.ret ?_)))))))))))
    refine E.blockR (E.thenR (E.KLR (E.blockR (E.KSR (E.ret3 rfl rfl rfl rfl (fun w1 hw=>?_))))))
    cases h
    exact ⟨_,_,rfl,⟨rfl,rfl⟩,hw⟩
   exact ln (W.condF rfl (W.skip (E.blockN (E.thenN (W.region (L.m (V:=fun x10=>.int .i64 x10) h rfl (Y.addM rfl rfl) (fun x10 ex10 h=>(L.r 1 rfl (L.nil (E.aJ ⟨Go.bits .or .u64 gx1 x4,x10,rfl,rfl,by rw [hg1];exact h⟩ hI))))))))))
  exact ln (W.seq (W.condF rfl (W.exit (E.thenX (E.KLX (E.blockX (E.joinJ ⟨rfl,rfl,h⟩ trivial hI)))))))
 rintro _ _ ⟨rfl,rfl,h⟩
 rw [qgd] at h
 refine sr (L.r 3 rfl (ln (W.ret (E.ret3 rfl rfl rfl rfl (fun w1 hw=>?_)))))
 cases h
 exact ⟨_,_,rfl,⟨rfl,rfl⟩,hw⟩
set_option maxRecDepth 100000 in
set_option maxHeartbeats 8000000 in
theorem W41 (a0:(List UInt8)) (w:World) (r:(Int×Int×Int)) (h:M41 a0=some r):Does Tryz.prog 41 [st a0] w fun u m=>u=.tuple #[.int .i64 r.1,.int .i64 r.2.1,.int .i64 r.2.2]∧m=[]:=by
 rw [M41] at h
 refine body (n:=28) Tryz.func41 rfl rfl rfl (Cls.refl w) (sr (L.r 3 rfl (nsr (L.r 1 rfl ?_))))
 obtain ⟨x1,x2,x3,e4,h⟩:=qW h
 refine L.y rfl (Y.does qdc rfl (fun w' hw=>(W68 a0 w' _ e4).mono (fun _ _ h=>h.1))) (L.r 7 rfl (ln (W.seq (sr (L.r 1 rfl (L.ite h rfl (Y.neq rfl rfl) (fun c5 h=>?_) (fun c5 h=>?_)))))))
 ·refine ln (W.condT rfl (sr (L.r 4 rfl (ln (W.ret (E.thenR (E.ret3 rfl rfl rfl rfl (fun w1 hw=>?_))))))))
  cases h
  exact ⟨_,_,rfl,⟨rfl,rfl⟩,hw⟩
 refine ln (W.condF rfl (W.skip (E.thenN (sr (L.r 1 rfl (L.m (V:=fun x6=>.int .u64 x6) h rfl (Y.shrM rfl rfl) (fun x6 ex6 h=>(L.r 1 rfl (ln (W.seq (W.seq ?_)))))))))))
 refine W.region (L.r 1 rfl (L.y rfl (Y.and rfl rfl) (L.ite h rfl (Y.eql rfl rfl) (fun c7 h=>?_) (fun c7 h=>?_))))
 ·refine ln (W.condT rfl (W.region (L.r 1 rfl (L.y rfl (Y.comM rfl) (L.r 1 rfl (nsr (L.r 1 rfl (L.y rfl (Y.conv Tryz.underlying114 Tryz.underlying3 rfl) (L.r 4 rfl ?_)))))))))
  refine ln (W.ret (E.ret3 rfl rfl rfl rfl (fun w1 hw=>?_)))
  cases h
  exact ⟨_,_,rfl,⟨rfl,rfl⟩,hw⟩
 refine ln (W.condF rfl (W.skip (E.thenN (sr (L.r 1 rfl (L.y rfl (Y.conv Tryz.underlying114 Tryz.underlying3 rfl) (L.r 4 rfl (ln (W.ret (E.ret3 rfl rfl rfl rfl (fun w1 hw=>?_)))))))))))
 cases h
 exact ⟨_,_,rfl,⟨rfl,rfl⟩,hw⟩
set_option maxRecDepth 100000 in
set_option maxHeartbeats 8000000 in
theorem W47 (a0:Int) (w:World) (r:(List UInt8)) (h:M47 a0=some r):Does Tryz.prog 47 [.int .u64 a0] w fun u m=>u=st r∧m=[]:=by
 rw [M47] at h
 refine body (n:=20) Tryz.func47 rfl rfl rfl (Cls.refl w) (sr (L.r 1 rfl (nsr (L.r 1 rfl (ln (W.seqJ (fun gs D=>∃ gx1 gv2 gl3,gs=[(0,.int .u64 gx1),(3,gv2)]∧D=Cls w [] [.sl gv2 5 1 (gl3.map (IK .u8))]∧qgj gx1 gl3=some r) ?_ ?_))))))
 ·refine W.block (W.nilSl 5 1 (W.loopJ (fun m gs D=>∃ gx4 gv5 gl6,gs=[(0,.int .u64 gx4),(3,gv5)]∧D=Cls w [] [.sl gv5 5 1 (gl6.map (IK .u8))]∧qaf m gx4 gl6=some r) ⟨a0,.slice none 0 0,[],rfl,rfl,h⟩ ⟨rfl,rfl,trivial⟩ hI ?_))
  rintro m _ _ ⟨gx4,gv5,gl6,rfl,rfl,h⟩
  rcases m with _ | m
  ·rw [qaf] at h;cases h
  rw [qaf] at h
  generalize hg1:qaf m=go1 at h
  rw [qeN] at h
  refine W.seq (sr (L.r 1 rfl (L.ite h rfl (Y.geq rfl rfl) (fun c4 h=>?_) (fun c4 h=>?_))))
  ·refine ln (W.condT rfl (W.skip (E.thenN (W.block (sr (L.r 2 rfl (L.y rfl (Y.conv Tryz.underlying114 Tryz.underlying5 rfl) (L.y rfl (Y.or rfl rfl) (L.litOne rfl Tryz.underlying130 eL5 rfl rfl ?_)))))))))
   intro b5
   refine L.appM (i:=1) (g:=(IK .u8)) (l:=gl6) (more:=[Go.bits .or .u8 (IntKind.wrap .u8 gx4) 128]) h rfl Tryz.underlying130 eL5 rfl rfl rfl (fun w hw=>As.at_ (hw.get (i:=0) rfl)) (qbf _) rfl ?_
   intro v6 l7 el7 h
   exact L.r 1 rfl (nr (L.r 1 rfl (L.m (V:=fun x8=>.int .u64 x8) h rfl (Y.shrM rfl rfl) (fun x8 ex8 h=>(L.r 1 rfl (L.nil (E.blockN (E.aJ ⟨x8,v6,l7,rfl,rfl,by rw [hg1];exact h⟩ (sI [0])))))))))
  exact ln (W.condF rfl (W.exit (E.thenX (E.KLX (E.blockX (E.jJ ⟨gx4,gv5,gl6,rfl,rfl,h⟩ hI))))))
 rintro _ _ ⟨gx1,gv2,gl3,rfl,rfl,h⟩
 rw [qgj] at h
 refine sr (L.r 2 rfl (L.y rfl (Y.conv Tryz.underlying114 Tryz.underlying5 rfl) (L.litOne rfl Tryz.underlying130 eL5 rfl rfl ?_)))
 intro b1
 refine L.appM (i:=1) (g:=(IK .u8)) (l:=gl3) (more:=[IntKind.wrap .u8 gx1]) h rfl Tryz.underlying130 eL5 rfl rfl rfl (fun w hw=>As.at_ (hw.get (i:=0) rfl)) (qbf _) rfl ?_
 intro v2 l3 el3 h
 refine L.y rfl (Y.convBytes (l:=l3) Tryz.underlying130 Tryz.underlying5 Tryz.underlying9 rfl (fun w hw=>As.at_ (hw.get (i:=0) rfl))) (L.r 1 rfl (ln (W.ret (E.ret1 rfl rfl (fun w1 hw=>?_)))))
 cases h
 exact ⟨_,_,rfl,⟨rfl,rfl⟩,hw.s []⟩
set_option maxRecDepth 100000 in
set_option maxHeartbeats 8000000 in
theorem W24 (a0:Int) (w:World) (r:(List UInt8)) (h:M24 a0=some r):Does Tryz.prog 24 [.int .i64 a0] w fun u m=>u=st r∧m=[]:=by
 rw [M24] at h
 refine body (n:=13) Tryz.func24 rfl rfl rfl (Cls.refl w) (sr (L.r 1 rfl (nsr (L.r 1 rfl (L.y rfl (Y.conv Tryz.underlying3 Tryz.underlying114 rfl) (L.m (V:=fun x1=>.int .u64 x1) h rfl (Y.shlM rfl rfl) (fun x1 ex1 h=>(L.r 1 rfl (ln ?_)))))))))
 refine W.seq (sr (L.r 1 rfl (L.ite h rfl (Y.lss rfl rfl) (fun c2 h=>?_) (fun c2 h=>?_))))
 ·refine ln (W.condT rfl (W.region (L.r 1 rfl (L.y rfl (Y.comM rfl) (L.r 1 rfl (nsr (L.r 1 rfl ?_)))))))
  obtain ⟨s3,e4,h⟩:=qd h
  refine L.y rfl (Y.does qjQ rfl (fun w' hw=>(W47 (qii .u64 x1) w' _ e4).mono (fun _ _ h=>h.1))) (L.r 1 rfl (ln (W.ret (E.ret1 rfl rfl (fun w1 hw=>?_)))))
  cases h
  exact ⟨_,_,rfl,⟨rfl,rfl⟩,hw⟩
 refine ln (W.condF rfl (W.skip (E.thenN (sr (L.r 1 rfl ?_)))))
 obtain ⟨s5,e6,h⟩:=qd h
 refine L.y rfl (Y.does qjQ rfl (fun w' hw=>(W47 x1 w' _ e6).mono (fun _ _ h=>h.1))) (L.r 1 rfl (ln (W.ret (E.ret1 rfl rfl (fun w1 hw=>?_)))))
 cases h
 exact ⟨_,_,rfl,⟨rfl,rfl⟩,hw⟩
set_option maxRecDepth 100000 in
set_option maxHeartbeats 8000000 in
theorem W92 (a0:(List UInt8)) (w:World) (r:Int) (h:M92 a0=some r):Does Tryz.prog 92 [st a0] w fun u m=>u=.int .u32 r∧m=[]:=by
 rw [M92] at h
 refine body (n:=27) Tryz.func92 rfl rfl rfl (Cls.refl w) (sr (L.r 1 rfl (nsr (L.r 2 rfl (ln (W.seqJ (fun gs D=>∃ gx1 gx2,gs=[(3,.int .u32 gx1),(4,.int .u32 gx2)]∧D=Cls w [] []∧qgb gx1 gx2=some r) ?_ ?_))))))
 ·refine sr (L.r 1 rfl (L.y rfl (Y.lenS Tryz.underlying9 rfl) (L.r 1 rfl (ln (W.block (W.loopJ (fun m gs D=>∃ gx3 gx4 gx5,gs=[(0,st a0),(3,.int .u32 gx3),(4,.int .u32 gx4),(7,.int .i64 (a0.length:Int)),(8,.int .i64 gx5)]∧D=Cls w [] []∧qac a0 m gx3 gx4 gx5=some r) ⟨1,0,0,rfl,rfl,h⟩ ⟨rfl,rfl,rfl,rfl,rfl,trivial⟩ hI ?_))))))
  rintro m _ _ ⟨gx3,gx4,gx5,rfl,rfl,h⟩
  rcases m with _ | m
  ·rw [qac] at h;cases h
  rw [qac] at h
  generalize hg1:qac a0 m=go1 at h
  rw [qeJ] at h
  refine sr (L.ite h rfl (Y.lss rfl rfl) (fun c2 h=>?_) (fun c2 h=>?_))
  ·refine ln (W.seq (W.condT rfl (W.skip (E.thenN (W.seq (W.block (sr (L.r 2 rfl (ln (W.seq ?_))))))))))
   refine W.region (L.r 3 rfl (L.m (V:=fun x3=>.int .u8 x3) h rfl (Y.indexSM Tryz.underlying9 rfl rfl) (fun x3 ex3 h=>(L.y rfl (Y.conv Tryz.underlying5 Tryz.underlying153 rfl) (L.y rfl (Y.addW rfl rfl) (L.m (V:=fun x4=>.int .u32 x4) h rfl (Y.remM rfl rfl) (fun x4 ex4 h=>(L.r 1 rfl (nr (L.r 2 rfl (L.y rfl (Y.addW rfl rfl) (L.m (V:=fun x5=>.int .u32 x5) h rfl (Y.remM rfl rfl) (fun x5 ex5 h=>(L.r 1 rfl ?_))))))))))))))
   exact L.nil (E.blockN (E.thenN (W.region (L.m (V:=fun x6=>.int .i64 x6) h rfl (Y.addM rfl rfl) (fun x6 ex6 h=>(L.r 1 rfl (L.nil (E.aJ ⟨x4,x5,x6,rfl,rfl,by rw [hg1];exact h⟩ hI))))))))
  exact ln (W.seq (W.condF rfl (W.exit (E.thenX (E.KLX (E.blockX (E.jJ ⟨gx3,gx4,rfl,rfl,h⟩ hI)))))))
 rintro _ _ ⟨gx1,gx2,rfl,rfl,h⟩
 rw [qgb] at h
 refine sr (L.r 1 rfl (L.m (V:=fun x1=>.int .u32 x1) h rfl (Y.shlM rfl rfl) (fun x1 ex1 h=>(L.r 1 rfl (L.y rfl (Y.or rfl rfl) (L.r 1 rfl (ln (W.ret (E.ret1 rfl rfl (fun w1 hw=>?_))))))))))
 cases h
 exact ⟨_,_,rfl,⟨rfl,rfl⟩,hw⟩
set_option maxRecDepth 100000 in
set_option maxHeartbeats 8000000 in
theorem W72 (a0:(List UInt8)) (w:World) (r:((List UInt8)×Int)) (h:M72 a0=some r):Does Tryz.prog 72 [st a0] w fun u m=>u=.tuple #[st r.1,.int .i64 r.2]∧m=[]:=by
 rw [M72] at h
 refine body (n:=25) Tryz.func72 rfl rfl rfl (Cls.refl w) (sr (L.r 2 rfl (ln (W.seq (sr (L.r 1 rfl (L.y rfl (Y.lenS Tryz.underlying9 rfl) (L.ite h rfl (Y.gtr rfl rfl) (fun c1 h=>?_) (fun c1 h=>?_)))))))))
 ·refine ln (W.condT rfl (sr (L.r 2 rfl (ln (W.ret (E.thenR (E.ret2 rfl rfl rfl (fun w1 hw=>?_))))))))
  cases h
  exact ⟨_,_,rfl,⟨rfl,rfl⟩,hw⟩
 refine ln (W.condF rfl (W.skip (E.thenN (sr (L.r 1 rfl ?_)))))
 obtain ⟨x2,e3,h⟩:=qd h
 refine L.y rfl (Y.does qkJ rfl (fun w' hw=>(W92 a0 w' _ e3).mono (fun _ _ h=>h.1))) (L.r 1 rfl (nsr (L.r 2 rfl (L.m (V:=fun x4=>.int .u32 x4) h rfl (Y.shrM rfl rfl) (fun x4 ex4 h=>(L.y rfl (Y.conv Tryz.underlying153 Tryz.underlying5 rfl) (L.r 1 rfl (L.m (V:=fun x5=>.int .u32 x5) h rfl (Y.shrM rfl rfl) (fun x5 ex5 h=>(L.y rfl (Y.conv Tryz.underlying153 Tryz.underlying5 rfl) (L.r 1 rfl (L.m (V:=fun x6=>.int .u32 x6) h rfl (Y.shrM rfl rfl) (fun x6 ex6 h=>?_)))))))))))))
 refine L.y rfl (Y.conv Tryz.underlying153 Tryz.underlying5 rfl) (L.r 1 rfl (L.y rfl (Y.conv Tryz.underlying153 Tryz.underlying5 rfl) (L.lit (xs:=[.tmp 13,.tmp 16,.tmp 19,.tmp 21]) rfl Tryz.underlying130 eL5 rfl rfl rfl rfl (by simp [Value.cells,st]) ?_)))
 intro b7
 refine L.y rfl (Y.convBytes (l:=[IntKind.wrap .u8 x4,IntKind.wrap .u8 x5,IntKind.wrap .u8 x6,IntKind.wrap .u8 x2]) Tryz.underlying130 Tryz.underlying5 Tryz.underlying9 rfl (fun w hw=>As.at_ (hw.get (i:=0) rfl))) (L.m (V:=fun s8=>st s8) h rfl (Y.catM rfl rfl) (fun s8 es8 h=>(L.r 2 rfl (ln (W.ret (E.ret2 rfl rfl rfl (fun w1 hw=>?_)))))))
 cases h
 exact ⟨_,_,rfl,⟨rfl,rfl⟩,hw.s []⟩
set_option maxRecDepth 100000 in
set_option maxHeartbeats 8000000 in
theorem W66 (a0:Int) (w:World) (r:(List UInt8)) (h:M66 a0=some r):Does Tryz.prog 66 [.int .i64 a0] w fun u m=>u=st r∧m=[]:=by
 rw [M66] at h
 refine body (n:=13) Tryz.func66 rfl rfl rfl (Cls.refl w) (sr (L.r 1 rfl (nsr (L.r 1 rfl ?_))))
 obtain ⟨s1,e2,h⟩:=qd h
 refine L.y rfl (Y.does qaP rfl (fun w' hw=>(W24 a0 w' _ e2).mono (fun _ _ h=>h.1))) ?_
 obtain ⟨s3,x4,e5,h⟩:=qB h
 refine L.y rfl (Y.does qjP rfl (fun w' hw=>(W72 s1 w' _ e5).mono (fun _ _ h=>h.1))) (L.r 5 rfl (nsr (L.r 1 rfl (L.m (V:=fun s6=>st s6) h rfl (Y.catM rfl rfl) (fun s6 es6 h=>(L.r 1 rfl (ln (W.ret (E.ret1 rfl rfl (fun w1 hw=>?_))))))))))
 cases h
 exact ⟨_,_,rfl,⟨rfl,rfl⟩,hw⟩
set_option maxRecDepth 100000 in
set_option maxHeartbeats 8000000 in
theorem W38 (a0:(List UInt8)) (w:World) (r:(Int×Int)) (h:M38 a0=some r):Does Tryz.prog 38 [st a0] w fun u m=>u=.tuple #[.int .i64 r.1,.int .i64 r.2]∧m=[]:=by
 rw [M38] at h
 refine body (n:=41) Tryz.func38 rfl rfl rfl (Cls.refl w) (sr (L.r 2 rfl (ln (W.seq (sr (L.r 1 rfl ?_))))))
 obtain ⟨s1,e2,h⟩:=qd h
 refine L.y rfl (Y.does qi1 rfl (fun w' hw=>(W65 a0 ([0]) w' _ e2).mono (fun _ _ h=>h.1))) (L.ite h rfl (Y.eqlS rfl rfl) (fun c3 h=>?_) (fun c3 h=>?_))
 ·refine ln (W.condT rfl (sr (L.r 2 rfl (ln (W.ret (E.thenR (E.ret2 rfl rfl rfl (fun w1 hw=>?_))))))))
  cases h
  exact ⟨_,_,rfl,⟨rfl,rfl⟩,hw⟩
 refine ln (W.condF rfl (W.skip (E.thenN (sr (L.r 1 rfl (L.m (V:=fun s4=>st s4) h rfl (Y.sliceSL Tryz.underlying9 rfl rfl) (fun s4 es4 h=>?_)))))))
 obtain ⟨x5,x6,x7,e8,h⟩:=qW h
 refine L.y rfl (Y.does qi4 rfl (fun w' hw=>(W41 s4 w' _ e8).mono (fun _ _ h=>h.1))) (L.r 7 rfl (nsr (L.r 1 rfl ?_)))
 obtain ⟨s9,e10,h⟩:=qd h
 refine L.y rfl (Y.does qkb rfl (fun w' hw=>(W66 x5 w' _ e10).mono (fun _ _ h=>h.1))) (L.r 1 rfl (ln (W.seq (sr (L.cutJ 6 (fun gs D=>∃ gb1,gs=[(0,st a0),(4,.int .i64 x5),(7,st s9),(25,.bool gb1)]∧D=Cls w [] []∧qcV x5 s9 a0 gb1=some r) ?_ ?_)))))
 ·refine L.r 1 rfl (L.ite h rfl (Y.neq rfl rfl) (fun c17 h=>?_) (fun c17 h=>?_))
  ·exact L.r 4 rfl (L.nil (E.jJ ⟨true,rfl,rfl,h⟩ hI))
  refine L.r 2 rfl (L.take rfl (L.ite h rfl (Y.lss rfl rfl) (fun c18 h=>?_) (fun c18 h=>?_)))
  ·exact L.r 1 rfl (L.nil (E.jJ ⟨true,rfl,rfl,h⟩ hI))
  exact L.r 1 rfl (L.nil (E.jJ ⟨false,rfl,rfl,h⟩ hI))
 rintro _ _ ⟨gb1,rfl,rfl,h⟩
 rw [qcV] at h
 rcases gb1 with _ | _
 ·replace h:=zZ h
  refine L.r 2 rfl (L.take rfl (L.ite h rfl (Y.gtr rfl rfl) (fun c11 h=>?_) (fun c11 h=>?_)))
  ·refine L.r 11 rfl (ln (W.condT rfl (sr (L.r 2 rfl (ln (W.ret (E.thenR (E.ret2 rfl rfl rfl (fun w1 hw=>?_)))))))))
   cases h
   exact ⟨_,_,rfl,⟨rfl,rfl⟩,hw⟩
  refine L.r 4 rfl (L.take rfl (L.y rfl (Y.lenS Tryz.underlying9 rfl) (L.take rfl (L.m (V:=fun x12=>.int .i64 x12) h rfl (Y.subM rfl rfl) (fun x12 ex12 h=>(L.take rfl ?_))))))
  obtain ⟨s13,e14,h⟩:=qd h
  refine L.y rfl (Y.does qjV rfl (fun w' hw=>(qar ([0]) x12 w' _ e14).mono (fun _ _ h=>h.1))) (L.take rfl (L.m (V:=fun s15=>st s15) h rfl (Y.catM rfl rfl) (fun s15 es15 h=>(L.r 1 rfl (L.take rfl (L.ite h rfl (Y.neqS rfl rfl) (fun c16 h=>?_) (fun c16 h=>?_)))))))
  ·refine L.r 1 rfl (ln (W.condT rfl (sr (L.r 2 rfl (ln (W.ret (E.thenR (E.ret2 rfl rfl rfl (fun w1 hw=>?_)))))))))
   cases h
   exact ⟨_,_,rfl,⟨rfl,rfl⟩,hw⟩
  refine L.r 1 rfl (ln (W.condF rfl (W.skip (E.thenN (sr (L.r 3 rfl (ln (W.ret (E.ret2 rfl rfl rfl (fun w1 hw=>?_))))))))))
  cases h
  exact ⟨_,_,rfl,⟨rfl,rfl⟩,hw⟩
 replace h:=zY h
 refine L.r 14 rfl (ln (W.condT rfl (sr (L.r 2 rfl (ln (W.ret (E.thenR (E.ret2 rfl rfl rfl (fun w1 hw=>?_)))))))))
 cases h
 exact ⟨_,_,rfl,⟨rfl,rfl⟩,hw⟩
set_option maxRecDepth 100000 in
set_option maxHeartbeats 8000000 in
theorem W67 (a0:(List UInt8)) (a1:Int) (w:World) (r:(Int×(List UInt8)×Bool)) (h:M67 a0 a1=some r):Does Tryz.prog 67 [st a0,.int .i64 a1] w fun u m=>u=.tuple #[.int .i64 r.1,st r.2.1,.bool r.2.2]∧m=[]:=by
 rw [M67] at h
 refine body (n:=47) Tryz.func67 rfl rfl rfl (Cls.refl w) (sr (L.r 3 rfl (ln (W.seq (sr (L.r 1 rfl (L.m (V:=fun s1=>st s1) h rfl (Y.sliceSH Tryz.underlying9 rfl rfl) (fun s1 es1 h=>(L.ite h rfl (Y.neqS rfl rfl) (fun c2 h=>?_) (fun c2 h=>?_))))))))))
 ·refine ln (W.condT rfl (sr (L.r 3 rfl (ln (W.ret (E.thenR (E.ret3 rfl rfl rfl rfl (fun w1 hw=>?_))))))))
  cases h
  exact ⟨_,_,rfl,⟨rfl,rfl⟩,hw⟩
 refine ln (W.condF rfl (W.skip (E.thenN (sr (L.r 1 rfl (L.m (V:=fun s3=>st s3) h rfl (Y.sliceSL Tryz.underlying9 rfl rfl) (fun s3 es3 h=>?_)))))))
 obtain ⟨x4,x5,x6,e7,h⟩:=qW h
 refine L.y rfl (Y.does qi4 rfl (fun w' hw=>(W41 s3 w' _ e7).mono (fun _ _ h=>h.1))) (L.r 7 rfl (ln (W.seq (sr (L.r 1 rfl (L.ite h rfl (Y.neq rfl rfl) (fun c8 h=>?_) (fun c8 h=>?_)))))))
 ·refine ln (W.condT rfl (sr (L.r 3 rfl (ln (W.ret (E.thenR (E.ret3 rfl rfl rfl rfl (fun w1 hw=>?_))))))))
  cases h
  exact ⟨_,_,rfl,⟨rfl,rfl⟩,hw⟩
 refine ln (W.condF rfl (W.skip (E.thenN (sr (L.r 2 rfl (L.m (V:=fun x9=>.int .i64 x9) h rfl (Y.addM rfl rfl) (fun x9 ex9 h=>(L.m (V:=fun s10=>st s10) h rfl (Y.sliceSL Tryz.underlying9 rfl rfl) (fun s10 es10 h=>?_)))))))))
 obtain ⟨x11,x12,x13,e14,h⟩:=qW h
 refine L.y rfl (Y.does qi4 rfl (fun w' hw=>(W41 s10 w' _ e14).mono (fun _ _ h=>h.1))) (L.r 7 rfl (ln (W.seq (W.quietC mixed (by kernel_rfl) (fun _ hw=>hw.drew) (fun hC=>(U.r 3 rfl (U.m (V:=fun x15=>.int .i64 x15) h rfl (Y.addM rfl rfl) (fun x15 ex15 h=>(U.r 1 rfl (U.m (V:=fun x16=>.int .i64 x16) h rfl (Y.addM rfl rfl) (fun x16 ex16 h=>(U.m (V:=fun s17=>st s17) h rfl (Y.sliceSL Tryz.underlying9 rfl rfl) (fun s17 es17 h=>(U.r 1 rfl (U.ite h rfl (Y.eql rfl rfl) (fun c18 h=>?_) (fun c18 h=>?_))))))))))))))))
 ·refine U.r 3 rfl (U.take rfl (U.y rfl (Y.eql rfl rfl) (U.r 4 rfl (U.nil (E.thenN (W.ret (E.ret3 rfl rfl rfl rfl (fun w1 hw=>?_))))))))
  cases h
  exact ⟨_,_,rfl,⟨rfl,rfl⟩,hw⟩
 refine U.r 8 rfl (U.nil (E.thenN (W.ret (E.ret3 rfl rfl rfl rfl (fun w1 hw=>?_)))))
 cases h
 exact ⟨_,_,rfl,⟨rfl,rfl⟩,hw⟩
set_option maxRecDepth 100000 in
set_option maxHeartbeats 8000000 in
theorem W69 (a0:(List UInt8)) (a1:Int) (a2:Int) (w:World) (r:(List UInt8)) (h:M69 a0 a1 a2=some r):Does Tryz.prog 69 [st a0,.int .i64 a1,.int .i64 a2] w fun u m=>u=st r∧m=[]:=by
 rw [M69] at h
 refine body (n:=14) Tryz.func69 rfl rfl rfl (Cls.refl w) (sr (L.r 1 rfl (nsr (L.r 2 rfl ?_))))
 obtain ⟨s1,e2,h⟩:=qd h
 refine L.y rfl (Y.does qaP rfl (fun w' hw=>(W24 a1 w' _ e2).mono (fun _ _ h=>h.1))) (L.m (V:=fun s3=>st s3) h rfl (Y.catM rfl rfl) (fun s3 es3 h=>(L.r 1 rfl ?_)))
 obtain ⟨s4,e5,h⟩:=qd h
 refine L.y rfl (Y.does qaP rfl (fun w' hw=>(W24 a2 w' _ e5).mono (fun _ _ h=>h.1))) (L.m (V:=fun s6=>st s6) h rfl (Y.catM rfl rfl) (fun s6 es6 h=>(L.r 1 rfl (ln (W.ret (E.ret1 rfl rfl (fun w1 hw=>?_)))))))
 cases h
 exact ⟨_,_,rfl,⟨rfl,rfl⟩,hw⟩
set_option maxRecDepth 100000 in
set_option maxHeartbeats 8000000 in
theorem W82 (a0:(List UInt8)) (a1:(List UInt8)) (w:World) (r:Bool) (h:M82 a0 a1=some r):Does Tryz.prog 82 [st a0,st a1] w fun u m=>u=.bool r∧m=[]:=by
 rw [M82] at h
 refine body (n:=18) Tryz.func82 rfl rfl rfl (Cls.refl w) (sr (L.r 1 rfl (nsr (L.r 1 rfl (L.y rfl (Y.lenS Tryz.underlying9 rfl) (L.r 1 rfl (L.y rfl (Y.lenS Tryz.underlying9 rfl) (L.ite h rfl (Y.geq rfl rfl) (fun c1 h=>?_) (fun c1 h=>?_)))))))))
 ·refine L.r 3 rfl (L.take rfl (L.y rfl (Y.lenS Tryz.underlying9 rfl) (L.take rfl (L.m (V:=fun s2=>st s2) h rfl (Y.sliceSH Tryz.underlying9 rfl rfl) (fun s2 es2 h=>(L.r 1 rfl (L.take rfl (L.y rfl (Y.eqlS rfl rfl) (L.r 2 rfl (ln (W.ret (E.ret1 rfl rfl (fun w1 hw=>?_)))))))))))))
  cases h
  exact ⟨_,_,rfl,⟨rfl,rfl⟩,hw⟩
 refine L.r 9 rfl (ln (W.ret (E.ret1 rfl rfl (fun w1 hw=>?_))))
 cases h
 exact ⟨_,_,rfl,⟨rfl,rfl⟩,hw⟩
set_option maxRecDepth 100000 in
set_option maxHeartbeats 8000000 in
theorem W60 (a0:(List UInt8)) (a1:(List UInt8)) (w:World) (r:Bool) (h:M60 a0 a1=some r):Does Tryz.prog 60 [st a0,st a1] w fun u m=>u=.bool r∧m=[]:=by
 rw [M60] at h
 refine body (n:=8) Tryz.func60 rfl rfl rfl (Cls.refl w) (sr (L.r 1 rfl (nsr (L.r 2 rfl ?_))))
 obtain ⟨b1,e2,h⟩:=qd h
 refine L.y rfl (Y.does qkM rfl (fun w' hw=>(W82 a0 a1 w' _ e2).mono (fun _ _ h=>h.1))) (L.r 1 rfl (ln (W.ret (E.ret1 rfl rfl (fun w1 hw=>?_)))))
 cases h
 exact ⟨_,_,rfl,⟨rfl,rfl⟩,hw⟩
set_option maxRecDepth 100000 in
set_option maxHeartbeats 8000000 in
theorem W70 (a0:(List UInt8)) (w:World) (r:((List UInt8)×Int)) (h:M70 a0=some r):Does Tryz.prog 70 [st a0] w fun u m=>u=.tuple #[st r.1,.int .i64 r.2]∧m=[]:=by
 rw [M70] at h
 refine body (n:=27) Tryz.func70 rfl rfl rfl (Cls.refl w) (sr (L.r 2 rfl (nsr (L.r 1 rfl (L.y rfl (Y.lenS Tryz.underlying9 rfl) (L.m (V:=fun x1=>.int .i64 x1) h rfl (Y.subM rfl rfl) (fun x1 ex1 h=>(L.r 1 rfl (ln ?_)))))))))
 refine W.seq (sr (L.r 1 rfl (L.ite h rfl (Y.lss rfl rfl) (fun c2 h=>?_) (fun c2 h=>?_))))
 ·refine ln (W.condT rfl (sr (L.r 2 rfl (ln (W.ret (E.thenR (E.ret2 rfl rfl rfl (fun w1 hw=>?_))))))))
  cases h
  exact ⟨_,_,rfl,⟨rfl,rfl⟩,hw⟩
 refine ln (W.condF rfl (W.skip (E.thenN (W.seq (sr (L.r 1 rfl (L.ite h rfl (Y.gtr rfl rfl) (fun c3 h=>?_) (fun c3 h=>?_))))))))
 ·refine ln (W.condT rfl (sr (L.r 2 rfl (ln (W.ret (E.thenR (E.ret2 rfl rfl rfl (fun w1 hw=>?_))))))))
  cases h
  exact ⟨_,_,rfl,⟨rfl,rfl⟩,hw⟩
 refine ln (W.condF rfl (W.skip (E.thenN (W.seq (sr (L.r 2 rfl (L.m (V:=fun s4=>st s4) h rfl (Y.sliceSH Tryz.underlying9 rfl rfl) (fun s4 es4 h=>?_))))))))
 obtain ⟨s5,x6,e7,h⟩:=qB h
 refine L.y rfl (Y.does qjP rfl (fun w' hw=>(W72 s4 w' _ e7).mono (fun _ _ h=>h.1))) (L.r 5 rfl (nsr (L.r 2 rfl (L.ite h rfl (Y.neqS rfl rfl) (fun c8 h=>?_) (fun c8 h=>?_)))))
 ·refine ln (W.condT rfl (sr (L.r 2 rfl (ln (W.ret (E.thenR (E.ret2 rfl rfl rfl (fun w1 hw=>?_))))))))
  cases h
  exact ⟨_,_,rfl,⟨rfl,rfl⟩,hw⟩
 refine ln (W.condF rfl (W.skip (E.thenN (sr (L.r 2 rfl (L.m (V:=fun s9=>st s9) h rfl (Y.sliceSH Tryz.underlying9 rfl rfl) (fun s9 es9 h=>(L.r 2 rfl (ln (W.ret (E.ret2 rfl rfl rfl (fun w1 hw=>?_))))))))))))
 cases h
 exact ⟨_,_,rfl,⟨rfl,rfl⟩,hw⟩
set_option maxRecDepth 100000 in
set_option maxHeartbeats 8000000 in
theorem W39 (a0:Int) (a1:Int) (a2:Int) (A60:(List TDisk)) (A100:(List TLog)) (gP60:Nat→Nat) (gP100:Nat→Nat) (qP60:Nat→List Value) (qP100:Nat→List Value) (w:World) (r:(Trecord×Bool)) (h:M39 a0 a1 a2 A60 A100=some r) (F:List Nat) (hc0:Cls w F [qe gP60 qP60 A60 [],qc gP60 gP100 qP100 A100 []] w):zg Tryz.prog 39 [VP gP100 a0,.int .i64 a1,.int .i64 a2] F w fun u m=>u=.tuple #[.agg #[.int .i64 r.1.epoch_,st r.1.text_,.int .i64 r.1.size_],.bool r.2]∧m=[qe gP60 qP60 A60 [],qc gP60 gP100 qP100 A100 []]:=by
 rw [M39] at h
 refine body (n:=138) Tryz.func39 rfl rfl rfl hc0 (sr (L.alloc rfl qe8 ?_))
 intro b1
 refine L.r 1 rfl (ln (W.seq (sr (L.r 2 rfl ?_))))
 obtain ⟨th2,eth2,h⟩:=qd h
 refine L.to (D:=Cls w F [.obj (gP100 a0.toNat) [VP gP60 th2.d_,.int .i64 th2.from_,.int .i64 th2.size_,.int .i64 th2.epoch_,.int .i64 th2.at_,.int .i64 th2.seq_,.bool th2.fell_] 100,qc gP60 gP100 qP100 A100 (a0.toNat :: []),.obj b1 [.int .i64 0,st [],.int .i64 0] 105,qe gP60 qP60 A60 []]) (fun _ hw=>hw.arOpen (p:=2) rfl eth2 List.not_mem_nil) (L.y rfl (Y.apNil rfl eth2) (L.y rfl (Y.fieldP qaO rfl) (L.y rfl (Y.loadP (i:=0) ag3 rfl rfl rfl) (L.ite h rfl (Y.geq rfl rfl) (fun c3 h=>?_) (fun c3 h=>?_)))))
 ·refine ln (W.condT rfl (sr (L.y rfl (Y.build (cells:=#[.int .i64 0,st [],.int .i64 0]) rfl (by kernel_rfl)) (L.store (i:=2) (vs:=[.int .i64 0,st [],.int .i64 0]) zE rfl rfl rfl rfl (by simp [Value.oneCell',Value.cells,st,pt,el]) rfl nb (L.r 1 rfl (ln (W.ret (E.thenR (E.to (D:=Cls w F [qc gP60 gP100 qP100 A100 [],.obj b1 [.int .i64 0,st [],.int .i64 0] 105,qe gP60 qP60 A60 []]) (fun _ hw=>hw.arShut (hs':=(a0.toNat :: [])) [0,1,2,3] eth2 (by decide) rfl (fun _=>List.mem_cons) List.not_mem_nil) (E.retR2 rfl (Rv.cellW (i:=1) vr zE rfl rfl rfl) (Rv.tmp rfl) (fun w1 hw=>?_)))))))))))
  cases h
  exact ⟨_,_,rfl,⟨rfl,rfl⟩,hw.s [2,0]⟩
 refine ln (W.condF rfl (W.skip (E.thenN (W.seq (W.drawn2 (k:=16) (stC [[10]] [Cls w F [.obj (gP100 a0.toNat) [VP gP60 th2.d_,.int .i64 th2.from_,.int .i64 th2.size_,.int .i64 th2.epoch_,.int .i64 th2.at_,.int .i64 th2.seq_,.bool th2.fell_] 100,qc gP60 gP100 qP100 A100 (a0.toNat :: []),.obj b1 [.int .i64 0,st [],.int .i64 0] 105,qe gP60 qP60 A60 []]] (Cls w F [.obj b1 [.int .i64 0,st [],.int .i64 0] 105,qe gP60 qP60 A60 []])) rfl mixed (fun _ hw=>hw.drew) (Sc.now (by kernel_rfl) hI) (V2.zz [] (Zc.on' (Zc.fin hI) (sI [2,3])) (fun hz15=>(V2.r [0] (by kernel_rfl) rfl (V2.apNil (i:=1) (Nx2.of [] (by kernel_rfl) rfl hz15) rfl rfl rfl eth2 (V2.q 2 [] hz15 rfl rfl (Y.fieldP xG rfl) (V2.zz [10] (Zc.at1 hI) (fun hz16=>(V2.q 3 [10] hz16 rfl rfl (Y.loadP (i:=0) qgZ rfl rfl rfl) (V2.r [4] (by kernel_rfl) rfl ?_))))))))))))))
 refine V2.apNil (i:=5) (Nx2.of [] (by kernel_rfl) rfl hz15) rfl rfl rfl eth2 (V2.q 6 [] hz15 rfl rfl (Y.fieldP vd rfl) (V2.q 7 [10] hz16 rfl rfl (Y.loadP (i:=0) ag3 rfl rfl rfl) (V2.r [8] (by kernel_rfl) rfl (V2.m (i:=9) (V':=fun x17=>.int .i64 x17) h (Nx2.of [] (by kernel_rfl) rfl hz15) rfl rfl rfl (Y.addM rfl rfl) (fun x17 ex17 h=>(V2.eff (i:=10) (by kernel_rfl) rfl (L.to (D:=Cls w F [qc gP60 gP100 qP100 A100 [],.obj b1 [.int .i64 0,st [],.int .i64 0] 105,qe gP60 qP60 A60 []]) (fun _ hw=>hw.arShut (hs':=(a0.toNat :: [])) [0,1,2,3] eth2 (by decide) rfl (fun _=>List.mem_cons) List.not_mem_nil) (L.to (D:=Cls w F [qe gP60 qP60 A60 [],qc gP60 gP100 qP100 A100 [],.obj b1 [.int .i64 0,st [],.int .i64 0] 105]) (sI [2,0,1]) ?_))))))))
 obtain ⟨s18,x19,e20,h⟩:=qB h
 refine L.doesP (A:=[qe gP60 qP60 A60 []]) (M:=[qc gP60 gP100 qP100 A100 [],.obj b1 [.int .i64 0,st [],.int .i64 0] 105]) rfl qjU rfl (fun w' hw=>W37 th2.d_ x17 A60 gP60 qP60 w' _ e20 _ hw.lend) ?_
 rintro _ _ ⟨rfl,rfl⟩
 refine L.to (D:=Cls w F [qe gP60 qP60 A60 [],qc gP60 gP100 qP100 A100 [],.obj b1 [.int .i64 0,st [],.int .i64 0] 105]) hI (L.nil (E.toV2 (stC [] [] (Cls w F [qe gP60 qP60 A60 [],.obj b1 [.int .i64 0,st [],.int .i64 0] 105])) 10 (by kernel_rfl) (Sc.past rfl (Sc.stayD (sI [1,0]))) (Sc.atD (sI [0,2])) (V2.r [11,12,13,14,15] (by kernel_rfl) rfl (V2.done (by kernel_rfl) (E.thenN (W.seq (sr (L.r 1 rfl (L.ite h rfl (Y.neq rfl rfl) (fun c22 h=>?_) (fun c22 h=>?_))))))))))
 ·refine ln (W.condT rfl (sr (L.y rfl (Y.build (cells:=#[.int .i64 0,st [],.int .i64 0]) rfl (by kernel_rfl)) (L.store (i:=2) (vs:=[.int .i64 0,st [],.int .i64 0]) zE rfl rfl rfl rfl (by simp [Value.oneCell',Value.cells,st,pt,el]) rfl nb (L.r 1 rfl (ln (W.ret (E.thenR (E.retR2 rfl (Rv.cellW (i:=2) vr zE rfl rfl rfl) (Rv.tmp rfl) (fun w1 hw=>?_))))))))))
  cases h
  exact ⟨_,_,rfl,⟨rfl,rfl⟩,hw.s [0,1]⟩
 refine ln (W.condF rfl (W.skip (E.thenN (sr (L.r 2 rfl ?_)))))
 obtain ⟨x23,s24,b25,e26,h⟩:=qW h
 refine L.y rfl (Y.does qkR rfl (fun w' hw=>(W67 s18 a2 w' _ e26).mono (fun _ _ h=>h.1))) (L.r 3 rfl (L.iteB h rfl (Y.extract rfl rfl) (fun c27 h=>?_) (fun c27 h=>?_)))
 ·refine L.r 3 rfl (ln (W.seq (sr (L.r 1 rfl (L.y rfl (Y.not rfl) (ln (W.condF rfl (W.skip (E.thenN (W.seq ?_))))))))))
  refine W.region (L.r 1 rfl ?_)
  obtain ⟨x28,x29,x30,e31,h⟩:=qW h
  refine L.y rfl (Y.does qdc rfl (fun w' hw=>(W68 s24 w' _ e31).mono (fun _ _ h=>h.1))) (L.r 7 rfl (ln (W.seq (sr (L.r 1 rfl (L.ite h rfl (Y.neq rfl rfl) (fun c32 h=>?_) (fun c32 h=>?_)))))))
  ·refine L.r 4 rfl (ln (W.condT rfl (sr (L.y rfl (Y.build (cells:=#[.int .i64 0,st [],.int .i64 0]) rfl (by kernel_rfl)) (L.store (i:=2) (vs:=[.int .i64 0,st [],.int .i64 0]) zE rfl rfl rfl rfl (by simp [Value.oneCell',Value.cells,st,pt,el]) rfl nb (L.r 1 rfl (ln (W.ret (E.thenR (E.retR2 rfl (Rv.cellW (i:=2) vr zE rfl rfl rfl) (Rv.tmp rfl) (fun w1 hw=>?_)))))))))))
   cases h
   exact ⟨_,_,rfl,⟨rfl,rfl⟩,hw.s [0,1]⟩
  refine L.r 2 rfl (L.take rfl (L.ite h rfl (Y.gtr rfl rfl) (fun c33 h=>?_) (fun c33 h=>?_)))
  ·refine L.r 1 rfl (ln (W.condT rfl (sr (L.y rfl (Y.build (cells:=#[.int .i64 0,st [],.int .i64 0]) rfl (by kernel_rfl)) (L.store (i:=2) (vs:=[.int .i64 0,st [],.int .i64 0]) zE rfl rfl rfl rfl (by simp [Value.oneCell',Value.cells,st,pt,el]) rfl nb (L.r 1 rfl (ln (W.ret (E.thenR (E.retR2 rfl (Rv.cellW (i:=2) vr zE rfl rfl rfl) (Rv.tmp rfl) (fun w1 hw=>?_)))))))))))
   cases h
   exact ⟨_,_,rfl,⟨rfl,rfl⟩,hw.s [0,1]⟩
  refine L.r 1 rfl (ln (W.condF rfl (W.skip (E.thenN (sr (L.r 2 rfl (L.y rfl (Y.conv Tryz.underlying114 Tryz.underlying3 rfl) (L.m (V:=fun x34=>.int .i64 x34) h rfl (Y.addM rfl rfl) (fun x34 ex34 h=>(L.m (V:=fun x35=>.int .i64 x35) h rfl (Y.addM rfl rfl) (fun x35 ex35 h=>(L.r 1 rfl (L.nil ?_)))))))))))))
  refine E.thenN (sr (L.r 1 rfl (ln (W.seqJ (fun gs D=>∃ gs1 gx2,gs=[(6,pt b1 0),(10,.int .i64 x23),(11,st gs1),(14,.int .i64 x29),(15,.int .i64 x35),(16,.int .i64 gx2)]∧D=Cls w F [qe gP60 qP60 A60 [],qc gP60 gP100 qP100 A100 [],.obj b1 [.int .i64 0,st [],.int .i64 0] 105]∧qaV x35 x29 x23 gs1 gx2=some r) ?_ ?_))))
  ·refine sr (L.r 2 rfl ?_)
   obtain ⟨s42,e43,h⟩:=qd h
   refine L.y rfl (Y.does qid rfl (fun w' hw=>(W69 ([2]) x23 a2 w' _ e43).mono (fun _ _ h=>h.1))) (L.r 1 rfl (ln (W.block (W.loopJ (fun m gs D=>∃ gs3 gx4,gs=[(0,VP gP100 a0),(1,.int .i64 a1),(6,pt b1 0),(10,.int .i64 x23),(11,st gs3),(14,.int .i64 x29),(15,.int .i64 x35),(16,.int .i64 gx4),(17,st s42)]∧D=Cls w F [qe gP60 qP60 A60 [],qc gP60 gP100 qP100 A100 [],.obj b1 [.int .i64 0,st [],.int .i64 0] 105]∧jV x35 a1 A100 a0 A60 s42 x29 x23 m gs3 gx4=some r) ⟨s24,1,rfl,rfl,h⟩ ⟨rfl,rfl,rfl,rfl,rfl,rfl,rfl,rfl,rfl,trivial⟩ hI ?_))))
   rintro m _ _ ⟨gs3,gx4,rfl,rfl,h⟩
   rcases m with _ | m
   ·rw [jV] at h;cases h
   rw [jV] at h
   generalize hg1:jV x35 a1 A100 a0 A60 s42 x29 x23 m=go1 at h
   rw [vk] at h
   refine W.seq (sr (L.r 1 rfl (L.y rfl (Y.lenS Tryz.underlying9 rfl) (L.r 1 rfl (L.ite h rfl (Y.lss rfl rfl) (fun c44 h=>?_) (fun c44 h=>?_))))))
   ·refine ln (W.condT rfl (W.skip (E.thenN (W.seq (W.block (W.seq (sr (L.r 2 rfl (L.m (V:=fun x45=>.int .i64 x45) h rfl (Y.addM rfl rfl) (fun x45 ex45 h=>(L.r 1 rfl ?_)))))))))))
    obtain ⟨th46,eth46,h⟩:=qd h
    refine L.to (D:=Cls w F [.obj (gP100 a0.toNat) [VP gP60 th46.d_,.int .i64 th46.from_,.int .i64 th46.size_,.int .i64 th46.epoch_,.int .i64 th46.at_,.int .i64 th46.seq_,.bool th46.fell_] 100,qc gP60 gP100 qP100 A100 (a0.toNat :: []),qe gP60 qP60 A60 [],.obj b1 [.int .i64 0,st [],.int .i64 0] 105]) (fun _ hw=>hw.arOpen (p:=1) rfl eth46 List.not_mem_nil) (L.y rfl (Y.apNil rfl eth46) (L.y rfl (Y.fieldP qaO rfl) (L.y rfl (Y.loadP (i:=0) ag3 rfl rfl rfl) (L.ite h rfl (Y.geq rfl rfl) (fun c47 h=>?_) (fun c47 h=>?_)))))
    ·refine ln (W.condT rfl (sr (L.y rfl (Y.build (cells:=#[.int .i64 0,st [],.int .i64 0]) rfl (by kernel_rfl)) (L.store (i:=3) (vs:=[.int .i64 0,st [],.int .i64 0]) zE rfl rfl rfl rfl (by simp [Value.oneCell',Value.cells,st,pt,el]) rfl nb (L.r 1 rfl (ln (W.ret (E.thenR (E.blockR (E.thenR ?_))))))))))
     refine E.KLR (E.blockR (E.KSR (E.to (D:=Cls w F [qc gP60 gP100 qP100 A100 [],qe gP60 qP60 A60 [],.obj b1 [.int .i64 0,st [],.int .i64 0] 105]) (fun _ hw=>hw.arShut (hs':=(a0.toNat :: [])) [0,1,2,3] eth46 (by decide) rfl (fun _=>List.mem_cons) List.not_mem_nil) (E.retR2 rfl (Rv.cellW (i:=2) vr zE rfl rfl rfl) (Rv.tmp rfl) (fun w1 hw=>?_)))))
     cases h
     exact ⟨_,_,rfl,⟨rfl,rfl⟩,hw.s [1,0]⟩
    refine ln (W.condF rfl (W.skip (E.thenN (W.seq (W.drawn2 (k:=18) (stC [[12]] [Cls w F [.obj (gP100 a0.toNat) [VP gP60 th46.d_,.int .i64 th46.from_,.int .i64 th46.size_,.int .i64 th46.epoch_,.int .i64 th46.at_,.int .i64 th46.seq_,.bool th46.fell_] 100,qc gP60 gP100 qP100 A100 (a0.toNat :: []),qe gP60 qP60 A60 [],.obj b1 [.int .i64 0,st [],.int .i64 0] 105]] (Cls w F [qe gP60 qP60 A60 [],.obj b1 [.int .i64 0,st [],.int .i64 0] 105])) rfl mixed (fun _ hw=>hw.drew) (Sc.now (by kernel_rfl) hI) (V2.zz [] (Zc.on' (Zc.fin hI) (sI [2,3])) (fun hz61=>(V2.r [0] (by kernel_rfl) rfl (V2.apNil (i:=1) (Nx2.of [] (by kernel_rfl) rfl hz61) rfl rfl rfl eth46 (V2.q 2 [] hz61 rfl rfl (Y.fieldP xG rfl) (V2.zz [12] (Zc.at1 hI) (fun hz62=>(V2.q 3 [12] hz62 rfl rfl (Y.loadP (i:=0) qgZ rfl rfl rfl) (V2.r [4] (by kernel_rfl) rfl ?_))))))))))))))
    refine V2.apNil (i:=5) (Nx2.of [] (by kernel_rfl) rfl hz61) rfl rfl rfl eth46 (V2.q 6 [] hz61 rfl rfl (Y.fieldP vd rfl) (V2.q 7 [12] hz62 rfl rfl (Y.loadP (i:=0) ag3 rfl rfl rfl) (V2.r [8] (by kernel_rfl) rfl (V2.m (i:=9) (V':=fun x63=>.int .i64 x63) h (Nx2.of [] (by kernel_rfl) rfl hz61) rfl rfl rfl (Y.addM rfl rfl) (fun x63 ex63 h=>(V2.r [10] (by kernel_rfl) rfl (V2.m (i:=11) (V':=fun x64=>.int .i64 x64) h (Nx2.of [] (by kernel_rfl) rfl hz61) rfl rfl rfl (Y.addM rfl rfl) (fun x64 ex64 h=>(V2.eff (i:=12) (by kernel_rfl) rfl (L.to (D:=Cls w F [qc gP60 gP100 qP100 A100 [],qe gP60 qP60 A60 [],.obj b1 [.int .i64 0,st [],.int .i64 0] 105]) (fun _ hw=>hw.arShut (hs':=(a0.toNat :: [])) [0,1,2,3] eth46 (by decide) rfl (fun _=>List.mem_cons) List.not_mem_nil) (L.to (D:=Cls w F [qe gP60 qP60 A60 [],qc gP60 gP100 qP100 A100 [],.obj b1 [.int .i64 0,st [],.int .i64 0] 105]) (sI [1,0,2]) ?_)))))))))))
    obtain ⟨s65,x66,e67,h⟩:=qB h
    refine L.doesP (A:=[qe gP60 qP60 A60 []]) (M:=[qc gP60 gP100 qP100 A100 [],.obj b1 [.int .i64 0,st [],.int .i64 0] 105]) rfl qjU rfl (fun w' hw=>W37 th46.d_ x64 A60 gP60 qP60 w' _ e67 _ hw.lend) ?_
    rintro _ _ ⟨rfl,rfl⟩
    refine L.to (D:=Cls w F [qe gP60 qP60 A60 [],qc gP60 gP100 qP100 A100 [],.obj b1 [.int .i64 0,st [],.int .i64 0] 105]) hI (L.nil (E.toV2 (stC [] [] (Cls w F [qe gP60 qP60 A60 [],.obj b1 [.int .i64 0,st [],.int .i64 0] 105])) 12 (by kernel_rfl) (Sc.past rfl (Sc.stayD hI)) (Sc.atD (sI [0,2])) (V2.r [13,14,15,16,17] (by kernel_rfl) rfl (V2.done (by kernel_rfl) (E.thenN (W.seq (sr (L.r 1 rfl (L.ite h rfl (Y.neq rfl rfl) (fun c69 h=>?_) (fun c69 h=>?_))))))))))
    ·refine L.r 6 rfl (ln (W.condT rfl (sr (L.y rfl (Y.build (cells:=#[.int .i64 0,st [],.int .i64 0]) rfl (by kernel_rfl)) (L.store (i:=2) (vs:=[.int .i64 0,st [],.int .i64 0]) zE rfl rfl rfl rfl (by simp [Value.oneCell',Value.cells,st,pt,el]) rfl nb (L.r 1 rfl (ln (W.ret (E.thenR (E.blockR ?_))))))))))
     refine E.thenR (E.KLR (E.blockR (E.KSR (E.retR2 rfl (Rv.cellW (i:=2) vr zE rfl rfl rfl) (Rv.tmp rfl) (fun w1 hw=>?_)))))
     cases h
     exact ⟨_,_,rfl,⟨rfl,rfl⟩,hw.s [0,1]⟩
    refine L.r 3 rfl (L.take rfl ?_)
    obtain ⟨b70,e71,h⟩:=qd h
    refine L.y rfl (Y.does qhT rfl (fun w' hw=>(W60 s65 s42 w' _ e71).mono (fun _ _ h=>h.1))) ?_
    rcases b70 with _ | _
    ·replace h:=zZ h
     refine L.take rfl (L.y rfl (Y.not rfl) (L.r 1 rfl (ln (W.condT rfl (sr (L.y rfl (Y.build (cells:=#[.int .i64 0,st [],.int .i64 0]) rfl (by kernel_rfl)) (L.store (i:=2) (vs:=[.int .i64 0,st [],.int .i64 0]) zE rfl rfl rfl rfl (by simp [Value.oneCell',Value.cells,st,pt,el]) rfl nb (L.r 1 rfl (ln (W.ret ?_))))))))))
     refine E.thenR (E.blockR (E.thenR (E.KLR (E.blockR (E.KSR (E.retR2 rfl (Rv.cellW (i:=2) vr zE rfl rfl rfl) (Rv.tmp rfl) (fun w1 hw=>?_)))))))
     cases h
     exact ⟨_,_,rfl,⟨rfl,rfl⟩,hw.s [0,1]⟩
    replace h:=zY h
    refine L.take rfl (L.y rfl (Y.not rfl) (L.r 1 rfl (ln (W.condF rfl (W.skip (E.thenN (W.region (L.r 3 rfl (L.y rfl (Y.lenS Tryz.underlying9 rfl) (L.m (V:=fun s72=>st s72) h rfl (Y.sliceSL Tryz.underlying9 rfl rfl) (fun s72 es72 h=>(L.m (V:=fun s73=>st s73) h rfl (Y.catM rfl rfl) (fun s73 es73 h=>(L.r 1 rfl ?_))))))))))))))
    exact L.nil (E.blockN (E.thenN (W.region (L.r 1 rfl (L.m (V:=fun x74=>.int .i64 x74) h rfl (Y.addM rfl rfl) (fun x74 ex74 h=>(L.r 1 rfl (L.nil (E.aJ ⟨s73,x74,rfl,rfl,by rw [hg1];exact h⟩ hI)))))))))
   exact ln (W.condF rfl (W.exit (E.thenX (E.KLX (E.blockX (E.jJ ⟨gs3,gx4,rfl,rfl,h⟩ hI))))))
  rintro _ _ ⟨gs1,gx2,rfl,rfl,h⟩
  rw [qaV] at h
  refine sr (L.r 2 rfl (L.m (V:=fun s36=>st s36) h rfl (Y.sliceSH Tryz.underlying9 rfl rfl) (fun s36 es36 h=>?_)))
  obtain ⟨s37,x38,e39,h⟩:=qB h
  refine L.y rfl (Y.does qeq rfl (fun w' hw=>(W70 s36 w' _ e39).mono (fun _ _ h=>h.1))) (L.r 5 rfl (ln (W.seq (sr (L.r 1 rfl (L.ite h rfl (Y.neq rfl rfl) (fun c40 h=>?_) (fun c40 h=>?_)))))))
  ·refine ln (W.condT rfl (sr (L.y rfl (Y.build (cells:=#[.int .i64 0,st [],.int .i64 0]) rfl (by kernel_rfl)) (L.store (i:=2) (vs:=[.int .i64 0,st [],.int .i64 0]) zE rfl rfl rfl rfl (by simp [Value.oneCell',Value.cells,st,pt,el]) rfl nb (L.r 1 rfl (ln (W.ret (E.thenR (E.retR2 rfl (Rv.cellW (i:=2) vr zE rfl rfl rfl) (Rv.tmp rfl) (fun w1 hw=>?_))))))))))
   cases h
   exact ⟨_,_,rfl,⟨rfl,rfl⟩,hw.s [0,1]⟩
  refine ln (W.condF rfl (W.skip (E.thenN (sr (L.r 3 rfl (L.m (V:=fun s41=>st s41) h rfl (Y.sliceSL Tryz.underlying9 rfl rfl) (fun s41 es41 h=>(L.r 1 rfl (L.y rfl (Y.build (cells:=#[.int .i64 x23,st s41,.int .i64 gx2]) rfl (by kernel_rfl)) (L.store (i:=2) (vs:=[.int .i64 x23,st s41,.int .i64 gx2]) zE rfl rfl rfl rfl (by simp [Value.oneCell',Value.cells,st,pt,el]) rfl nb (L.r 1 rfl (L.nil ?_))))))))))))
  refine E.thenN (W.ret (E.retR2 rfl (Rv.cellW (i:=2) vr zE rfl rfl rfl) (Rv.tmp rfl) (fun w1 hw=>?_)))
  cases h
  exact ⟨_,_,rfl,⟨rfl,rfl⟩,hw.s [0,1]⟩
 refine L.r 3 rfl (ln (W.seq (sr (L.r 1 rfl (L.y rfl (Y.not rfl) (ln (W.condT rfl (sr (L.y rfl (Y.build (cells:=#[.int .i64 0,st [],.int .i64 0]) rfl (by kernel_rfl)) ?_)))))))))
 refine L.store (i:=2) (vs:=[.int .i64 0,st [],.int .i64 0]) zE rfl rfl rfl rfl (by simp [Value.oneCell',Value.cells,st,pt,el]) rfl nb (L.r 1 rfl (ln (W.ret (E.thenR (E.retR2 rfl (Rv.cellW (i:=2) vr zE rfl rfl rfl) (Rv.tmp rfl) (fun w1 hw=>?_))))))
 cases h
 exact ⟨_,_,rfl,⟨rfl,rfl⟩,hw.s [0,1]⟩
set_option maxRecDepth 100000 in
set_option maxHeartbeats 8000000 in
theorem W73 (a0:Int) (A60:(List TDisk)) (gP60:Nat→Nat) (qP60:Nat→List Value) (w:World) (r:((List TDisk)×Int)) (h:M73 a0 A60=some r) (F:List Nat) (hc0:Cls w F [qe gP60 qP60 A60 []] w):zg Tryz.prog 73 [VP gP60 a0] F w fun u m=>∃ Q60,u=.int .i64 r.2∧m=[qe gP60 Q60 r.1 []]:=by
 rw [M73] at h
 refine body (n:=20) Tryz.func73 rfl rfl rfl hc0 (sr (L.r 1 rfl (ln (W.seq (sr (L.r 1 rfl ?_))))))
 obtain ⟨th1,eth1,h⟩:=qd h
 refine L.to (D:=Cls w F [.obj (gP60 a0.toNat) [(gv (qP60 a0.toNat) 0),(gv (qP60 a0.toNat) 1),(gv (qP60 a0.toNat) 2),.int .i64 th1.left_] 60,.sl (gv (qP60 a0.toNat) 0) 9 1 (th1.safe_.map SR),.sl (gv (qP60 a0.toNat) 1) 9 1 (th1.seen_.map SR),.sl (gv (qP60 a0.toNat) 2) 62 2 (th1.late_.map Twrite.row),qe gP60 qP60 A60 (a0.toNat :: [])]) (fun _ hw=>hw.arOpen (p:=0) rfl eth1 List.not_mem_nil) (L.y rfl (Y.apNil rfl eth1) (L.y rfl (Y.fieldP vc rfl) (L.y rfl (Y.loadP (i:=0) ag3 rfl rfl rfl) (L.ite h rfl (Y.eql rfl rfl) (fun c2 h=>?_) (fun c2 h=>?_)))))
 ·refine ln (W.condT rfl (sr (L.r 1 rfl (ln (W.ret (E.thenR (E.to (D:=Cls w F [qe gP60 qP60 A60 []]) (fun _ hw=>hw.arShut (hs':=(a0.toNat :: [])) [0,1,2,3,4] eth1 (by decide) rfl (fun _=>List.mem_cons) List.not_mem_nil) (E.ret1 rfl rfl (fun w1 hw=>?_)))))))))
  cases h
  exact ⟨_,_,rfl,⟨_,rfl,rfl⟩,hw⟩
 refine ln (W.condF rfl (W.skip (E.thenN (W.seq (sr (L.r 1 rfl (L.y rfl (Y.apNil rfl eth1) (L.y rfl (Y.fieldP vc rfl) (L.y rfl (Y.loadP (i:=0) ag3 rfl rfl rfl) (L.ite h rfl (Y.gtr rfl rfl) (fun c3 h=>?_) (fun c3 h=>?_)))))))))))
 ·refine ln (W.condT rfl (W.region (L.r 1 rfl (L.y rfl (Y.apNil rfl eth1) (L.y rfl (Y.fieldP vc rfl) (L.y rfl (Y.loadP (i:=0) ag3 rfl rfl rfl) (L.m (V:=fun x4=>.int .i64 x4) h rfl (Y.subM rfl rfl) (fun x4 ex4 h=>(L.y rfl (Y.apNil rfl eth1) (L.y rfl (Y.fieldP vc rfl) (L.store (i:=0) (vs:=[.int .i64 x4]) sz3 rfl rfl rfl rfl (by simp [Value.oneCell',Value.cells,st,pt,el]) rfl nb (ln ?_))))))))))))
  refine sr (L.r 1 rfl (ln (W.ret ?_)))
  obtain ⟨l5,el5,h⟩:=qd h
  refine E.arClose (row:=TDisk.rowA) (sub:=TDisk.subA) (e:=60) (g:=gP60) (gh:=qP60) (vs':=[(gv (qP60 a0.toNat) 0),(gv (qP60 a0.toNat) 1),(gv (qP60 a0.toNat) 2)]) (hs:=[]) (hs':=(a0.toNat :: [])) (m':=[]) [0,1,2,3,4] el5 (by decide) rfl (fun _=>List.mem_cons) List.not_mem_nil ?_
  intro q6
  refine E.to (D:=Cls w F [qe gP60 q6 l5 []]) hI (E.ret1 rfl rfl (fun w1 hw=>?_))
  cases h
  exact ⟨_,_,rfl,⟨_,rfl,rfl⟩,hw⟩
 refine ln (W.condF rfl (W.skip (E.thenN (sr (L.r 1 rfl (ln (W.ret (E.to (D:=Cls w F [qe gP60 qP60 A60 []]) (fun _ hw=>hw.arShut (hs':=(a0.toNat :: [])) [0,1,2,3,4] eth1 (by decide) rfl (fun _=>List.mem_cons) List.not_mem_nil) (E.ret1 rfl rfl (fun w1 hw=>?_))))))))))
 cases h
 exact ⟨_,_,rfl,⟨_,rfl,rfl⟩,hw⟩
set_option maxRecDepth 100000 in
set_option maxHeartbeats 8000000 in
theorem W44 (a0:Int) (a1:Int) (a2:(List UInt8)) (A60:(List TDisk)) (gP60:Nat→Nat) (qP60:Nat→List Value) (w:World) (r:((List TDisk)×Int)) (h:M44 a0 a1 a2 A60=some r) (F:List Nat) (hc0:Cls w F [qe gP60 qP60 A60 []] w):zg Tryz.prog 44 [VP gP60 a0,.int .i64 a1,st a2] F w fun u m=>∃ Q60,u=.int .i64 r.2∧m=[qe gP60 Q60 r.1 []]:=by
 rw [M44] at h
 refine body (n:=52) Tryz.func44 rfl rfl rfl hc0 (sr (L.r 1 rfl (ln (W.seq (sr (L.r 1 rfl (L.ite h rfl (Y.lss rfl rfl) (fun c1 h=>?_) (fun c1 h=>?_))))))))
 ·refine L.r 9 rfl (ln (W.condT rfl (sr (L.r 1 rfl (ln (W.ret (E.thenR (E.ret1 rfl rfl (fun w1 hw=>?_)))))))))
  cases h
  exact ⟨_,_,rfl,⟨_,rfl,rfl⟩,hw⟩
 refine L.r 3 rfl (L.take rfl ?_)
 obtain ⟨th2,eth2,h⟩:=qd h
 refine L.to (D:=Cls w F [.obj (gP60 a0.toNat) [(gv (qP60 a0.toNat) 0),(gv (qP60 a0.toNat) 1),(gv (qP60 a0.toNat) 2),.int .i64 th2.left_] 60,.sl (gv (qP60 a0.toNat) 0) 9 1 (th2.safe_.map SR),.sl (gv (qP60 a0.toNat) 1) 9 1 (th2.seen_.map SR),.sl (gv (qP60 a0.toNat) 2) 62 2 (th2.late_.map Twrite.row),qe gP60 qP60 A60 (a0.toNat :: [])]) (fun _ hw=>hw.arOpen (p:=0) rfl eth2 List.not_mem_nil) (L.y rfl (Y.apNil rfl eth2) (L.take rfl (L.y rfl (Y.fieldP ju rfl) (L.take rfl (L.y rfl (Y.loadP (i:=0) qde rfl rfl rfl) (L.take rfl (L.y rfl (Y.lenM (g:=SR) (l:=th2.safe_) Tryz.underlying57 rfl (fun w hw=>As.at_ (hw.get (i:=1) rfl))) (L.take rfl (L.ite h rfl (Y.geq rfl rfl) (fun c3 h=>?_) (fun c3 h=>?_))))))))))
 ·refine L.r 1 rfl (ln (W.condT rfl (sr (L.r 1 rfl (ln (W.ret (E.thenR (E.to (D:=Cls w F [qe gP60 qP60 A60 []]) (fun _ hw=>hw.arShut (hs':=(a0.toNat :: [])) [0,1,2,3,4] eth2 (by decide) rfl (fun _=>List.mem_cons) List.not_mem_nil) (E.ret1 rfl rfl (fun w1 hw=>?_))))))))))
  cases h
  exact ⟨_,_,rfl,⟨_,rfl,rfl⟩,hw⟩
 refine L.r 1 rfl (ln (W.condF rfl (W.skip (E.thenN (W.seq (sr (L.r 1 rfl (L.y rfl (Y.lenS Tryz.underlying9 rfl) (L.ite h rfl (Y.gtr rfl rfl) (fun c4 h=>?_) (fun c4 h=>?_))))))))))
 ·refine ln (W.condT rfl (sr (L.r 1 rfl (ln (W.ret (E.thenR (E.to (D:=Cls w F [qe gP60 qP60 A60 []]) (fun _ hw=>hw.arShut (hs':=(a0.toNat :: [])) [0,1,2,3,4] eth2 (by decide) rfl (fun _=>List.mem_cons) List.not_mem_nil) (E.ret1 rfl rfl (fun w1 hw=>?_)))))))))
  cases h
  exact ⟨_,_,rfl,⟨_,rfl,rfl⟩,hw⟩
 refine ln (W.condF rfl (W.skip (E.thenN (W.seq (sr (L.r 1 rfl (L.to (D:=Cls w F [qe gP60 qP60 A60 []]) (fun _ hw=>hw.arShut (hs':=(a0.toNat :: [])) [0,1,2,3,4] eth2 (by decide) rfl (fun _=>List.mem_cons) List.not_mem_nil) ?_)))))))
 obtain ⟨l5,x6,e7,h⟩:=qB h
 refine L.doesP (A:=[qe gP60 qP60 A60 []]) (M:=[]) rfl qka rfl (fun w' hw=>W73 a0 A60 gP60 qP60 w' _ e7 _ hw.lend) ?_
 rintro _ _ ⟨q8,rfl,rfl⟩
 refine L.to (D:=Cls w F [qe gP60 q8 l5 []]) hI (L.r 1 rfl (nsr (L.r 1 rfl (L.ite h rfl (Y.neq rfl rfl) (fun c9 h=>?_) (fun c9 h=>?_)))))
 ·refine ln (W.condT rfl (sr (L.r 2 rfl (ln (W.ret (E.thenR (E.ret1 rfl rfl (fun w1 hw=>?_))))))))
  cases h
  exact ⟨_,_,rfl,⟨_,rfl,rfl⟩,hw⟩
 refine ln (W.condF rfl (W.skip (E.thenN (sr (L.r 2 rfl (L.y rfl (Y.lenS Tryz.underlying9 rfl) (L.m (V:=fun x10=>.int .i64 x10) h rfl (Y.subM rfl rfl) (fun x10 ex10 h=>?_))))))))
 obtain ⟨s11,e12,h⟩:=qd h
 refine L.y rfl (Y.does qjV rfl (fun w' hw=>(qar ([0]) x10 w' _ e12).mono (fun _ _ h=>h.1))) (L.m (V:=fun s13=>st s13) h rfl (Y.catM rfl rfl) (fun s13 es13 h=>(L.r 1 rfl (nsr (L.r 1 rfl ?_)))))
 obtain ⟨th14,eth14,h⟩:=qd h
 refine L.to (D:=Cls w F [.obj (gP60 a0.toNat) [(gv (q8 a0.toNat) 0),(gv (q8 a0.toNat) 1),(gv (q8 a0.toNat) 2),.int .i64 th14.left_] 60,.sl (gv (q8 a0.toNat) 0) 9 1 (th14.safe_.map SR),.sl (gv (q8 a0.toNat) 1) 9 1 (th14.seen_.map SR),.sl (gv (q8 a0.toNat) 2) 62 2 (th14.late_.map Twrite.row),qe gP60 q8 l5 (a0.toNat :: [])]) (fun _ hw=>hw.arOpen (p:=0) rfl eth14 List.not_mem_nil) (L.y rfl (Y.apNil rfl eth14) (L.y rfl (Y.fieldP y1 rfl) (L.y rfl (Y.loadP (i:=0) qde rfl rfl rfl) (L.r 2 rfl (L.m (V:=fun _=>el (gv (q8 a0.toNat) 1) (a1.toNat*1)) h rfl (Y.indexM (g:=SR) (l:=th14.seen_) Tryz.underlying57 sz9 rfl rfl (fun w hw=>As.at_ (hw.get (i:=2) rfl))) (fun x15 ex15 h=>(L.storeSlM (q:=2) (row:=SR) (vs:=[st s13]) (j:=0) (u1:=s13) h sz9 rfl rfl rfl rfl rfl (zi rfl zq) rfl ex15 rfl rfl ?_)))))))
 intro l16 el16 h
 refine nsr (L.r 2 rfl (L.y rfl (Y.apNil rfl eth14) (L.y rfl (Y.fieldP y0 rfl) (L.y rfl (Y.loadP (i:=0) qkr rfl rfl rfl) (L.r 2 rfl (L.y rfl (Y.build (cells:=#[.int .i64 a1,st s13]) rfl (by kernel_rfl)) (L.litAgg rfl Tryz.underlying58 qko rfl rfl rfl ?_)))))))
 intro b17
 refine L.appM (i:=4) (g:=Twrite.row) (l:=th14.late_) (more:=[(⟨a1,s13⟩:Twrite)]) h rfl Tryz.underlying58 qko rfl rfl rfl (fun w hw=>As.at_ (hw.get (i:=0) rfl)) (yE _) rfl ?_
 intro v18 l19 el19 h
 refine L.y rfl (Y.apNil rfl eth14) (L.y rfl (Y.fieldP y0 rfl) (L.storeV (i:=2) qjD rfl rfl (fun _ hw=>(As.at_ (hw.get (i:=0) rfl)).one) rfl nb (nsr (L.r 1 rfl (ln (W.ret ?_))))))
 obtain ⟨l20,el20,h⟩:=qd h
 refine E.arClose (row:=TDisk.rowA) (sub:=TDisk.subA) (e:=60) (g:=gP60) (gh:=q8) (vs':=[(gv (q8 a0.toNat) 0),(gv (q8 a0.toNat) 1),v18]) (hs:=[]) (hs':=(a0.toNat :: [])) (m':=[.sl (sv b17 1) 62 2 (([(⟨a1,s13⟩:Twrite)]).map Twrite.row)]) [2,3,4,0,5,1] el20 (by decide) rfl (fun _=>List.mem_cons) List.not_mem_nil ?_
 intro q21
 refine E.to (D:=Cls w F [qe gP60 q21 l20 [],.sl (sv b17 1) 62 2 (([(⟨a1,s13⟩:Twrite)]).map Twrite.row)]) hI (E.ret1 rfl rfl (fun w1 hw=>?_))
 cases h
 exact ⟨_,_,rfl,⟨_,rfl,rfl⟩,hw.s [0]⟩
set_option maxRecDepth 100000 in
set_option maxHeartbeats 8000000 in
theorem W45 (a0:Int) (a1:Int) (A100:(List TLog)) (gP60:Nat→Nat) (gP100:Nat→Nat) (qP100:Nat→List Value) (w:World) (r:((List TLog)×Int)) (h:M45 a0 a1 A100=some r) (F:List Nat) (hc0:Cls w F [qc gP60 gP100 qP100 A100 []] w):zg Tryz.prog 45 [VP gP100 a0,.int .i64 a1] F w fun u m=>∃ Q100,u=.int .i64 r.2∧m=[qc gP60 gP100 Q100 r.1 []]:=by
 rw [M45] at h
 refine body (n:=17) Tryz.func45 rfl rfl rfl hc0 (sr (L.r 1 rfl (nsr (L.r 2 rfl ?_))))
 obtain ⟨th1,eth1,h⟩:=qd h
 refine L.to (D:=Cls w F [.obj (gP100 a0.toNat) [VP gP60 th1.d_,.int .i64 th1.from_,.int .i64 th1.size_,.int .i64 th1.epoch_,.int .i64 th1.at_,.int .i64 th1.seq_,.bool th1.fell_] 100,qc gP60 gP100 qP100 A100 (a0.toNat :: [])]) (fun _ hw=>hw.arOpen (p:=0) rfl eth1 List.not_mem_nil) (L.y rfl (Y.apNil rfl eth1) (L.y rfl (Y.fieldP jO rfl) (L.iteB h rfl (Y.loadP (i:=0) ag4 rfl rfl rfl) (fun c2 h=>?_) (fun c2 h=>?_))))
 ·refine L.r 4 rfl (L.y rfl (Y.apNil rfl eth1) (L.y rfl (Y.fieldP jO rfl) (L.store (i:=0) (vs:=[.bool true]) sz4 rfl rfl rfl rfl (by simp [Value.oneCell',Value.cells,st,pt,el]) rfl nb (nsr (L.r 2 rfl (ln (W.ret ?_)))))))
  obtain ⟨l3,el3,h⟩:=qd h
  refine E.arClose (row:=TLog.rowA gP60) (sub:=TLog.subA gP60) (e:=100) (g:=gP100) (gh:=qP100) (vs':=[]) (hs:=[]) (hs':=(a0.toNat :: [])) (m':=[]) [0,1] el3 (by decide) rfl (fun _=>List.mem_cons) List.not_mem_nil ?_
  intro q4
  refine E.to (D:=Cls w F [qc gP60 gP100 q4 l3 []]) hI (E.ret1 rfl rfl (fun w1 hw=>?_))
  cases h
  exact ⟨_,_,rfl,⟨_,rfl,rfl⟩,hw⟩
 refine L.r 2 rfl (L.take rfl (L.y rfl (Y.neq rfl rfl) (L.r 1 rfl (L.y rfl (Y.apNil rfl eth1) (L.y rfl (Y.fieldP jO rfl) (L.store (i:=0) (vs:=[.bool (decide (a1≠0))]) sz4 rfl rfl rfl rfl (by simp [Value.oneCell',Value.cells,st,pt,el]) rfl nb (nsr (L.r 2 rfl (ln ?_)))))))))
 refine W.ret ?_
 obtain ⟨l5,el5,h⟩:=qd h
 refine E.arClose (row:=TLog.rowA gP60) (sub:=TLog.subA gP60) (e:=100) (g:=gP100) (gh:=qP100) (vs':=[]) (hs:=[]) (hs':=(a0.toNat :: [])) (m':=[]) [0,1] el5 (by decide) rfl (fun _=>List.mem_cons) List.not_mem_nil ?_
 intro q6
 refine E.to (D:=Cls w F [qc gP60 gP100 q6 l5 []]) hI (E.ret1 rfl rfl (fun w1 hw=>?_))
 cases h
 exact ⟨_,_,rfl,⟨_,rfl,rfl⟩,hw⟩
set_option maxRecDepth 100000 in
set_option maxHeartbeats 8000000 in
theorem W46 (a0:Int) (A60:(List TDisk)) (gP60:Nat→Nat) (qP60:Nat→List Value) (w:World) (r:((List TDisk)×Int)) (h:M46 a0 A60=some r) (F:List Nat) (hc0:Cls w F [qe gP60 qP60 A60 []] w):zg Tryz.prog 46 [VP gP60 a0] F w fun u m=>∃ Q60,u=.int .i64 r.2∧m=[qe gP60 Q60 r.1 []]:=by
 rw [M46] at h
 refine body (n:=21) Tryz.func46 rfl rfl rfl hc0 (sr (L.r 1 rfl (ln (W.seq (sr (L.r 1 rfl ?_))))))
 obtain ⟨l1,x2,e3,h⟩:=qB h
 refine L.doesP (A:=[qe gP60 qP60 A60 []]) (M:=[]) rfl qka rfl (fun w' hw=>W73 a0 A60 gP60 qP60 w' _ e3 _ hw.lend) ?_
 rintro _ _ ⟨q4,rfl,rfl⟩
 refine L.to (D:=Cls w F [qe gP60 q4 l1 []]) hI (L.r 1 rfl (nsr (L.r 1 rfl (L.ite h rfl (Y.neq rfl rfl) (fun c5 h=>?_) (fun c5 h=>?_)))))
 ·refine ln (W.condT rfl (sr (L.r 2 rfl (ln (W.ret (E.thenR (E.ret1 rfl rfl (fun w1 hw=>?_))))))))
  cases h
  exact ⟨_,_,rfl,⟨_,rfl,rfl⟩,hw⟩
 refine ln (W.condF rfl (W.skip (E.thenN (W.seq ?_))))
 obtain ⟨th6,eth6,h⟩:=qd h
 refine W.to (D:=Cls w F [.obj (gP60 a0.toNat) [(gv (q4 a0.toNat) 0),(gv (q4 a0.toNat) 1),(gv (q4 a0.toNat) 2),.int .i64 th6.left_] 60,.sl (gv (q4 a0.toNat) 0) 9 1 (th6.safe_.map SR),.sl (gv (q4 a0.toNat) 1) 9 1 (th6.seen_.map SR),.sl (gv (q4 a0.toNat) 2) 62 2 (th6.late_.map Twrite.row),qe gP60 q4 l1 (a0.toNat :: [])]) (fun _ hw=>hw.arOpen (p:=0) rfl eth6 List.not_mem_nil) (W.drawn2 (k:=9) (stC [[8]] [Cls w F [.obj (gP60 a0.toNat) [(gv (q4 a0.toNat) 0),(gv (q4 a0.toNat) 1),(gv (q4 a0.toNat) 2),.int .i64 th6.left_] 60,.sl (gv (q4 a0.toNat) 0) 9 1 (th6.safe_.map SR),.sl (gv (q4 a0.toNat) 1) 9 1 (th6.seen_.map SR),.sl (gv (q4 a0.toNat) 2) 62 2 (th6.late_.map Twrite.row),qe gP60 q4 l1 (a0.toNat :: [])]] (Cls w F [.obj (gP60 a0.toNat) [(gv (q4 a0.toNat) 0),(gv (q4 a0.toNat) 1),(gv (q4 a0.toNat) 2),.int .i64 th6.left_] 60,.sl (gv (q4 a0.toNat) 1) 9 1 (th6.seen_.map SR),.sl (gv (q4 a0.toNat) 2) 62 2 (th6.late_.map Twrite.row),qe gP60 q4 l1 (a0.toNat :: [])])) rfl mixed (fun _ hw=>hw.drew) (Sc.now (by kernel_rfl) hI) (V2.zz [] (Zc.on' (Zc.fin hI) (sI [0,2,3,4])) (fun hz8=>(V2.r [0] (by kernel_rfl) rfl (V2.apNil (i:=1) (Nx2.of [] (by kernel_rfl) rfl hz8) rfl rfl rfl eth6 (V2.q 2 [] hz8 rfl rfl (Y.fieldP ju rfl) (V2.q 3 [] hz8 rfl rfl (Y.loadP (i:=0) qde rfl rfl rfl) (V2.r [4] (by kernel_rfl) rfl (V2.apNil (i:=5) (Nx2.of [] (by kernel_rfl) rfl hz8) rfl rfl rfl eth6 (V2.q 6 [] hz8 rfl rfl (Y.fieldP y1 rfl) (V2.q 7 [] hz8 rfl rfl (Y.loadP (i:=0) qde rfl rfl rfl) (V2.eff (i:=8) (by kernel_rfl) rfl (L.copyMD (i:=1) (g:=SR) (l:=th6.safe_) (s:=th6.seen_) rfl Tryz.underlying57 eL9 rfl rfl rfl (fun w hw=>As.at_ (hw.get (i:=2) rfl)) (qv _) (fun _=>(L.nil ?_)))))))))))))))
 refine E.toV2 (stC [] [] (Cls w F [.obj (gP60 a0.toNat) [(gv (q4 a0.toNat) 0),(gv (q4 a0.toNat) 1),(gv (q4 a0.toNat) 2),.int .i64 th6.left_] 60,.sl (gv (q4 a0.toNat) 1) 9 1 (th6.seen_.map SR),.sl (gv (q4 a0.toNat) 2) 62 2 (th6.late_.map Twrite.row),qe gP60 q4 l1 (a0.toNat :: [])])) 8 (by kernel_rfl) (Sc.past rfl (Sc.stayD hI)) (Sc.atD (sI [0,2,3,4])) (V2.done (by kernel_rfl) (E.thenN (sr (L.r 1 rfl (L.y rfl (Y.apNil rfl eth6) (L.y rfl (Y.fieldP y0 rfl) (L.store (i:=0) (vs:=[.slice none 0 0]) qjD rfl rfl rfl rfl (by simp [Value.oneCell',Value.cells,st,pt,el]) rfl nb (nsr (L.r 1 rfl ?_)))))))))
 refine ln (W.ret (E.nilSl 62 2 ?_))
 obtain ⟨l9,el9,h⟩:=qd h
 refine E.arClose (row:=TDisk.rowA) (sub:=TDisk.subA) (e:=60) (g:=gP60) (gh:=q4) (vs':=[(gv (q4 a0.toNat) 0),(gv (q4 a0.toNat) 1),(.slice none 0 0)]) (hs:=[]) (hs':=(a0.toNat :: [])) (m':=[.sl (gv (q4 a0.toNat) 2) 62 2 (th6.late_.map Twrite.row)]) [1,2,3,0,5,4] el9 (by decide) rfl (fun _=>List.mem_cons) List.not_mem_nil ?_
 intro q10
 refine E.to (D:=Cls w F [qe gP60 q10 l9 [],.sl (gv (q4 a0.toNat) 2) 62 2 (th6.late_.map Twrite.row)]) hI (E.ret1 rfl rfl (fun w1 hw=>?_))
 cases h
 exact ⟨_,_,rfl,⟨_,rfl,rfl⟩,hw.s [0]⟩
set_option maxRecDepth 100000 in
set_option maxHeartbeats 8000000 in
theorem W40 (a0:Int) (A60:(List TDisk)) (A100:(List TLog)) (gP60:Nat→Nat) (gP100:Nat→Nat) (qP60:Nat→List Value) (qP100:Nat→List Value) (w:World) (r:((List TDisk)×(List TLog)×Int)) (h:M40 a0 A60 A100=some r) (F:List Nat) (hc0:Cls w F [qe gP60 qP60 A60 [],qc gP60 gP100 qP100 A100 []] w):zg Tryz.prog 40 [VP gP100 a0] F w fun u m=>∃ Q60 Q100,u=.int .i64 r.2.2∧m=[qe gP60 Q60 r.1 [],qc gP60 gP100 Q100 r.2.1 []]:=by
 rw [M40] at h
 refine body (n:=47) Tryz.func40 rfl rfl rfl hc0 (sr (L.r 1 rfl (ln (W.seq (sr (L.r 1 rfl ?_))))))
 obtain ⟨th1,eth1,h⟩:=qd h
 refine L.to (D:=Cls w F [.obj (gP100 a0.toNat) [VP gP60 th1.d_,.int .i64 th1.from_,.int .i64 th1.size_,.int .i64 th1.epoch_,.int .i64 th1.at_,.int .i64 th1.seq_,.bool th1.fell_] 100,qc gP60 gP100 qP100 A100 (a0.toNat :: []),qe gP60 qP60 A60 []]) (fun _ hw=>hw.arOpen (p:=1) rfl eth1 List.not_mem_nil) (L.y rfl (Y.apNil rfl eth1) (L.y rfl (Y.fieldP xj rfl) (L.y rfl (Y.loadP (i:=0) ag3 rfl rfl rfl) (L.ite h rfl (Y.geq rfl rfl) (fun c2 h=>?_) (fun c2 h=>?_)))))
 ·refine ln (W.condT rfl (sr (L.r 1 rfl (ln (W.ret (E.thenR (E.to (D:=Cls w F [qc gP60 gP100 qP100 A100 [],qe gP60 qP60 A60 []]) (fun _ hw=>hw.arShut (hs':=(a0.toNat :: [])) [0,1,2] eth1 (by decide) rfl (fun _=>List.mem_cons) List.not_mem_nil) (E.ret1 rfl rfl (fun w1 hw=>?_)))))))))
  cases h
  exact ⟨_,_,rfl,⟨_,_,rfl,rfl⟩,hw.s [1,0]⟩
 refine ln (W.condF rfl (W.skip (E.thenN (W.seq (W.seq (W.drawn2 (k:=16) (stC [[14]] [Cls w F [.obj (gP100 a0.toNat) [VP gP60 th1.d_,.int .i64 th1.from_,.int .i64 th1.size_,.int .i64 th1.epoch_,.int .i64 th1.at_,.int .i64 th1.seq_,.bool th1.fell_] 100,qc gP60 gP100 qP100 A100 (a0.toNat :: []),qe gP60 qP60 A60 []]] (Cls w F [])) rfl mixed (fun _ hw=>hw.drew) (Sc.now (by kernel_rfl) hI) (V2.zz [] (Zc.on' (Zc.fin hI) (sI [])) (fun hz29=>(V2.r [0] (by kernel_rfl) rfl (V2.apNil (i:=1) (Nx2.of [] (by kernel_rfl) rfl hz29) rfl rfl rfl eth1 (V2.q 2 [] hz29 rfl rfl (Y.fieldP xG rfl) (V2.zz [14] (Zc.at1 hI) (fun hz30=>(V2.q 3 [14] hz30 rfl rfl (Y.loadP (i:=0) qgZ rfl rfl rfl) ?_))))))))))))))
 refine V2.r [4] (by kernel_rfl) rfl (V2.apNil (i:=5) (Nx2.of [] (by kernel_rfl) rfl hz29) rfl rfl rfl eth1 (V2.q 6 [] hz29 rfl rfl (Y.fieldP vd rfl) (V2.q 7 [14] hz30 rfl rfl (Y.loadP (i:=0) ag3 rfl rfl rfl) (V2.r [8] (by kernel_rfl) rfl (V2.apNil (i:=9) (Nx2.of [] (by kernel_rfl) rfl hz29) rfl rfl rfl eth1 (V2.q 10 [] hz29 rfl rfl (Y.fieldP xj rfl) (V2.q 11 [14] hz30 rfl rfl (Y.loadP (i:=0) ag3 rfl rfl rfl) (V2.m (i:=12) (V':=fun x31=>.int .i64 x31) h (Nx2.of [] (by kernel_rfl) rfl hz29) rfl rfl rfl (Y.addM rfl rfl) (fun x31 ex31 h=>(V2.eff (i:=13) (by kernel_rfl) rfl ?_))))))))))
 obtain ⟨s32,e33,h⟩:=qd h
 refine L.y rfl (Y.does qkb rfl (fun w' hw=>(W66 x31 w' _ e33).mono (fun _ _ h=>h.1))) (L.nil (E.toV2 (stC [[14]] [Cls w F [.obj (gP100 a0.toNat) [VP gP60 th1.d_,.int .i64 th1.from_,.int .i64 th1.size_,.int .i64 th1.epoch_,.int .i64 th1.at_,.int .i64 th1.seq_,.bool th1.fell_] 100,qc gP60 gP100 qP100 A100 (a0.toNat :: []),qe gP60 qP60 A60 []]] (Cls w F [])) 13 (by kernel_rfl) (Sc.stay hI (Sc.stayD hI)) (Sc.now (by kernel_rfl) hI) (V2.eff (i:=14) (by kernel_rfl) rfl (L.to (D:=Cls w F [qc gP60 gP100 qP100 A100 [],qe gP60 qP60 A60 []]) (fun _ hw=>hw.arShut (hs':=(a0.toNat :: [])) [0,1,2] eth1 (by decide) rfl (fun _=>List.mem_cons) List.not_mem_nil) (L.to (D:=Cls w F [qe gP60 qP60 A60 [],qc gP60 gP100 qP100 A100 []]) (sI [1,0]) ?_)))))
 obtain ⟨l34,x35,e36,h⟩:=qB h
 refine L.doesP (A:=[qe gP60 qP60 A60 []]) (M:=[qc gP60 gP100 qP100 A100 []]) rfl qjS rfl (fun w' hw=>W44 th1.d_ th1.from_ s32 A60 gP60 qP60 w' _ e36 _ hw.lend) ?_
 rintro _ _ ⟨q37,rfl,rfl⟩
 refine L.to (D:=Cls w F [qe gP60 q37 l34 [],qc gP60 gP100 qP100 A100 []]) hI (L.nil (E.toV2 (stC [] [] (Cls w F [])) 14 (by kernel_rfl) (Sc.past rfl (Sc.stayD hI)) (Sc.atD (sI [])) (V2.r [15] (by kernel_rfl) rfl (V2.done (by kernel_rfl) (E.thenN (sr (L.r 1 rfl (L.ite h rfl (Y.neq rfl rfl) (fun c39 h=>?_) (fun c39 h=>?_)))))))))
 ·refine ln (W.condT rfl (sr (L.r 2 rfl (L.to (D:=Cls w F [qc gP60 gP100 qP100 A100 [],qe gP60 q37 l34 []]) (sI [1,0]) ?_))))
  obtain ⟨l40,x41,e42,h⟩:=qB h
  refine L.doesP (A:=[qc gP60 gP100 qP100 A100 []]) (M:=[qe gP60 q37 l34 []]) rfl qie rfl (fun w' hw=>W45 a0 x35 A100 gP60 gP100 qP100 w' _ e42 _ hw.lend) ?_
  rintro _ _ ⟨q43,rfl,rfl⟩
  refine L.to (D:=Cls w F [qc gP60 gP100 q43 l40 [],qe gP60 q37 l34 []]) hI (L.r 1 rfl (ln (W.ret (E.thenR (E.ret1 rfl rfl (fun w1 hw=>?_))))))
  cases h
  exact ⟨_,_,rfl,⟨_,_,rfl,rfl⟩,hw.s [1,0]⟩
 refine ln (W.condF rfl (W.skip (E.thenN (W.seq (sr (L.r 1 rfl ?_))))))
 obtain ⟨th44,eth44,h⟩:=qd h
 refine L.to (D:=Cls w F [.obj (gP100 a0.toNat) [VP gP60 th44.d_,.int .i64 th44.from_,.int .i64 th44.size_,.int .i64 th44.epoch_,.int .i64 th44.at_,.int .i64 th44.seq_,.bool th44.fell_] 100,qc gP60 gP100 qP100 A100 (a0.toNat :: []),qe gP60 q37 l34 []]) (fun _ hw=>hw.arOpen (p:=1) rfl eth44 List.not_mem_nil) (L.y rfl (Y.apNil rfl eth44) (L.y rfl (Y.fieldP xG rfl) (L.y rfl (Y.loadP (i:=0) qgZ rfl rfl rfl) (L.to (D:=Cls w F [qc gP60 gP100 qP100 A100 [],qe gP60 q37 l34 []]) (fun _ hw=>hw.arShut (hs':=(a0.toNat :: [])) [0,1,2] eth44 (by decide) rfl (fun _=>List.mem_cons) List.not_mem_nil) (L.to (D:=Cls w F [qe gP60 q37 l34 [],qc gP60 gP100 qP100 A100 []]) (sI [1,0]) ?_)))))
 obtain ⟨l45,x46,e47,h⟩:=qB h
 refine L.doesP (A:=[qe gP60 q37 l34 []]) (M:=[qc gP60 gP100 qP100 A100 []]) rfl qjR rfl (fun w' hw=>W46 th44.d_ l34 gP60 q37 w' _ e47 _ hw.lend) ?_
 rintro _ _ ⟨q48,rfl,rfl⟩
 refine L.to (D:=Cls w F [qe gP60 q48 l45 [],qc gP60 gP100 qP100 A100 []]) hI (L.r 1 rfl (nsr (L.r 1 rfl (L.ite h rfl (Y.neq rfl rfl) (fun c49 h=>?_) (fun c49 h=>?_)))))
 ·refine ln (W.condT rfl (sr (L.r 2 rfl (L.to (D:=Cls w F [qc gP60 gP100 qP100 A100 [],qe gP60 q48 l45 []]) (sI [1,0]) ?_))))
  obtain ⟨l50,x51,e52,h⟩:=qB h
  refine L.doesP (A:=[qc gP60 gP100 qP100 A100 []]) (M:=[qe gP60 q48 l45 []]) rfl qie rfl (fun w' hw=>W45 a0 x46 A100 gP60 gP100 qP100 w' _ e52 _ hw.lend) ?_
  rintro _ _ ⟨q53,rfl,rfl⟩
  refine L.to (D:=Cls w F [qc gP60 gP100 q53 l50 [],qe gP60 q48 l45 []]) hI (L.r 1 rfl (ln (W.ret (E.thenR (E.ret1 rfl rfl (fun w1 hw=>?_))))))
  cases h
  exact ⟨_,_,rfl,⟨_,_,rfl,rfl⟩,hw.s [1,0]⟩
 refine ln (W.condF rfl (W.skip (E.thenN (sr (L.r 1 rfl ?_)))))
 obtain ⟨th54,eth54,h⟩:=qd h
 refine L.to (D:=Cls w F [.obj (gP100 a0.toNat) [VP gP60 th54.d_,.int .i64 th54.from_,.int .i64 th54.size_,.int .i64 th54.epoch_,.int .i64 th54.at_,.int .i64 th54.seq_,.bool th54.fell_] 100,qc gP60 gP100 qP100 A100 (a0.toNat :: []),qe gP60 q48 l45 []]) (fun _ hw=>hw.arOpen (p:=1) rfl eth54 List.not_mem_nil) (L.y rfl (Y.apNil rfl eth54) (L.y rfl (Y.fieldP xj rfl) (L.y rfl (Y.loadP (i:=0) ag3 rfl rfl rfl) (L.m (V:=fun x55=>.int .i64 x55) h rfl (Y.addM rfl rfl) (fun x55 ex55 h=>(L.y rfl (Y.apNil rfl eth54) (L.y rfl (Y.fieldP xj rfl) (L.store (i:=0) (vs:=[.int .i64 x55]) sz3 rfl rfl rfl rfl (by simp [Value.oneCell',Value.cells,st,pt,el]) rfl nb (nsr (L.r 1 rfl (L.nil ?_)))))))))))
 refine E.thenN (W.ret ?_)
 obtain ⟨l56,el56,h⟩:=qd h
 refine E.arClose (row:=TLog.rowA gP60) (sub:=TLog.subA gP60) (e:=100) (g:=gP100) (gh:=qP100) (vs':=[]) (hs:=[]) (hs':=(a0.toNat :: [])) (m':=[qe gP60 q48 l45 []]) [0,1,2] el56 (by decide) rfl (fun _=>List.mem_cons) List.not_mem_nil ?_
 intro q57
 refine E.to (D:=Cls w F [qc gP60 gP100 q57 l56 [],qe gP60 q48 l45 []]) hI (E.ret1 rfl rfl (fun w1 hw=>?_))
 cases h
 exact ⟨_,_,rfl,⟨_,_,rfl,rfl⟩,hw.s [1,0]⟩
set_option maxRecDepth 100000 in
set_option maxHeartbeats 8000000 in
theorem W21 (a0:Int) (a1:Int) (a2:Int) (A60:(List TDisk)) (A100:(List TLog)) (gP60:Nat→Nat) (gP100:Nat→Nat) (qP60:Nat→List Value) (qP100:Nat→List Value) (w:World) (r:((List TDisk)×(List TLog)×Int×(List (List UInt8))×Int)) (h:M21 a0 a1 a2 A60 A100=some r) (F:List Nat) (hc0:Cls w F [qe gP60 qP60 A60 [],qc gP60 gP100 qP100 A100 []] w):zg Tryz.prog 21 [VP gP60 a0,.int .i64 a1,.int .i64 a2] F w fun u m=>∃ G100 Q60 Q100 v1,Gr gP100 A100.length G100 r.2.1.length∧u=.tuple #[VP G100 r.2.2.1,v1,.int .i64 r.2.2.2.2]∧m=[qe gP60 Q60 r.1 [],qc gP60 G100 Q100 r.2.1 [],.sl v1 9 1 (r.2.2.2.1.map SR)]:=by
 rw [M21] at h
 obtain ⟨g100,hg100⟩:∃ g,g=gP100:=⟨_,rfl⟩
 have hGr100:Gr g100 A100.length gP100 A100.length:=hg100 ▸ Gr.refl _ _
 refine body (n:=122) Tryz.func21 rfl rfl rfl hc0 (sr (L.r 3 rfl (ln (W.seq (sr (L.cutJ 6 (fun gs D=>∃ gb1,gs=[(0,VP gP60 a0),(1,.int .i64 a1),(2,.int .i64 a2),(22,.bool gb1)]∧D=Cls w F [qe gP60 qP60 A60 [],qc gP60 gP100 qP100 A100 []]∧qa0 A60 A100 a0 a1 a2 gb1=some r) ?_ ?_))))))
 ·refine L.r 1 rfl (L.ite h rfl (Y.lss rfl rfl) (fun c85 h=>?_) (fun c85 h=>?_))
  ·exact L.r 4 rfl (L.nil (E.jJ ⟨true,rfl,rfl,h⟩ hI))
  refine L.r 2 rfl (L.take rfl (L.ite h rfl (Y.lss rfl rfl) (fun c86 h=>?_) (fun c86 h=>?_)))
  ·exact L.r 1 rfl (L.nil (E.jJ ⟨true,rfl,rfl,h⟩ hI))
  exact L.r 1 rfl (L.nil (E.jJ ⟨false,rfl,rfl,h⟩ hI))
 rintro _ _ ⟨gb1,rfl,rfl,h⟩
 rw [qa0] at h
 rcases gb1 with _ | _
 ·replace h:=zZ h
  refine L.r 3 rfl (L.take rfl ?_)
  obtain ⟨x1,e2,h⟩:=qd h
  refine L.doesP (A:=[qe gP60 qP60 A60 []]) (M:=[qc gP60 gP100 qP100 A100 []]) rfl qjW rfl (fun w' hw=>W20 a0 A60 gP60 qP60 w' _ e2 _ hw.lend) ?_
  rintro _ _ ⟨rfl,rfl⟩
  refine L.to (D:=Cls w F [qe gP60 qP60 A60 [],qc gP60 gP100 qP100 A100 []]) hI (L.take rfl (L.ite h rfl (Y.gtr rfl rfl) (fun c3 h=>?_) (fun c3 h=>?_)))
  ·refine L.r 9 rfl (ln (W.condT rfl (sr (L.r 3 rfl (ln (W.ret (E.thenR (E.ret3 rfl rfl rfl rfl (fun w1 hw=>?_)))))))))
   cases h
   exact ⟨_,_,rfl,⟨_,_,_,_,(hg100 ▸ hGr100),rfl,rfl⟩,(hw.nilSl 9 1).sel [1,2,0] (by decide) rfl⟩
  refine L.r 4 rfl (L.take rfl ?_)
  obtain ⟨x4,e5,h⟩:=qd h
  refine L.doesP (A:=[qe gP60 qP60 A60 []]) (M:=[qc gP60 gP100 qP100 A100 []]) rfl qjW rfl (fun w' hw=>W20 a0 A60 gP60 qP60 w' _ e5 _ hw.lend) ?_
  rintro _ _ ⟨rfl,rfl⟩
  refine L.to (D:=Cls w F [qe gP60 qP60 A60 [],qc gP60 gP100 qP100 A100 []]) hI (L.r 1 rfl (L.take rfl (L.m (V:=fun x6=>.int .i64 x6) h rfl (Y.subM rfl rfl) (fun x6 ex6 h=>(L.take rfl (L.ite h rfl (Y.gtr rfl rfl) (fun c7 h=>?_) (fun c7 h=>?_)))))))
  ·refine L.r 1 rfl (ln (W.condT rfl (sr (L.r 3 rfl (ln (W.ret (E.thenR (E.ret3 rfl rfl rfl rfl (fun w1 hw=>?_)))))))))
   cases h
   exact ⟨_,_,rfl,⟨_,_,_,_,(hg100 ▸ hGr100),rfl,rfl⟩,(hw.nilSl 9 1).sel [1,2,0] (by decide) rfl⟩
  refine L.r 1 rfl (ln (W.condF rfl (W.skip (E.thenN (sr (L.r 3 rfl (L.y rfl (Y.buildC (cells:=#[VP gP60 a0,.int .i64 a1,.int .i64 a2,.int .i64 0,.int .i64 1,.int .i64 0,.bool false]) rfl (fun w hw=>by rcases qbD gP60 a0 with h0 | ⟨_,h0⟩ <;> simp only [h0] <;> kernel_rfl)) (L.box rfl rfl ?_))))))))
  intro b8
  refine L.r 1 rfl (nsr (L.r 2 rfl (L.to (D:=Cls w F [qe gP60 qP60 A60 [],.obj b8 [VP gP60 a0,.int .i64 a1,.int .i64 a2,.int .i64 0,.int .i64 1,.int .i64 0,.bool false] 100,qc gP60 gP100 qP100 A100 []]) (sI [1,0,2]) ?_)))
  obtain ⟨s9,x10,e11,h⟩:=qB h
  refine L.doesP (A:=[qe gP60 qP60 A60 []]) (M:=[.obj b8 [VP gP60 a0,.int .i64 a1,.int .i64 a2,.int .i64 0,.int .i64 1,.int .i64 0,.bool false] 100,qc gP60 gP100 qP100 A100 []]) rfl qjU rfl (fun w' hw=>W37 a0 a1 A60 gP60 qP60 w' _ e11 _ hw.lend) ?_
  rintro _ _ ⟨rfl,rfl⟩
  refine L.to (D:=Cls w F [qe gP60 qP60 A60 [],.obj b8 [VP gP60 a0,.int .i64 a1,.int .i64 a2,.int .i64 0,.int .i64 1,.int .i64 0,.bool false] 100,qc gP60 gP100 qP100 A100 []]) hI (L.r 5 rfl (ln (W.seq (sr (L.r 1 rfl (L.ite h rfl (Y.neq rfl rfl) (fun c12 h=>?_) (fun c12 h=>?_)))))))
  ·refine ln (W.condT rfl (sr (L.r 4 rfl (ln (W.ret (E.thenR (E.ret3 rfl rfl rfl rfl (fun w1 hw=>?_))))))))
   cases h
   exact ⟨_,_,rfl,⟨_,_,_,_,(hg100 ▸ hGr100),rfl,rfl⟩,(hw.nilSl 9 1).sel [1,3,0] (by decide) rfl⟩
  refine ln (W.condF rfl (W.skip (E.thenN (W.seq (sr (L.r 2 rfl ?_))))))
  obtain ⟨x13,x14,e15,h⟩:=qB h
  refine L.y rfl (Y.does qes rfl (fun w' hw=>(W38 s9 w' _ e15).mono (fun _ _ h=>h.1))) (L.r 4 rfl (L.y rfl (Y.fieldP xj rfl) (L.store (i:=1) (vs:=[.int .i64 x13]) sz3 rfl rfl rfl rfl (by simp [Value.oneCell',Value.cells,st,pt,el]) rfl nb (L.r 1 rfl (nsr (L.r 1 rfl (L.ite h rfl (Y.neq rfl rfl) (fun c16 h=>?_) (fun c16 h=>?_))))))))
  ·refine ln (W.condT rfl (sr (L.r 4 rfl (ln (W.ret (E.thenR (E.ret3 rfl rfl rfl rfl (fun w1 hw=>?_))))))))
   cases h
   exact ⟨_,_,rfl,⟨_,_,_,_,(hg100 ▸ hGr100),rfl,rfl⟩,(hw.nilSl 9 1).sel [1,3,0] (by decide) rfl⟩
  refine ln (W.condF rfl (W.skip (E.thenN (sr (L.r 1 rfl (ln (W.seqJ (fun gs D=>∃ gx2 gv3 gl4 gP100 gl6 gq7,∃ gu8:Unit,gs=[(9,VP gP100 gx2),(12,gv3)]∧D=Cls w F [qe gP60 qP60 A60 [],qc gP60 gP100 gq7 gl6 [],.sl gv3 9 1 (gl4.map SR)]∧Gr g100 A100.length gP100 gl6.length∧yd A60 gx2 gl4 gl6=some r) ?_ ?_)))))))
  ·refine sr (L.r 1 rfl (ln (W.block (W.arNew (rowg:=fun g=>TLog.rowA gP60) (subg:=fun g=>TLog.subA gP60) (e:=100) (g:=gP100) (gh:=qP100) (l:=A100) (hs:=[]) (b:=b8) (u1:=(⟨a0,a1,a2,x13,1,0,false⟩:TLog)) (vs':=[]) (m':=[qe gP60 qP60 A60 []]) [1,2,0] h (by decide) rfl (fun _ h=>nomatch h) (fun _ _ _ _ _=>⟨rfl,rfl⟩) ?_))))
   intro gP100 q25 x26 l27 h hg28 hv29 hi30
   rw [hv29]
   replace hGr100:=hGr100.trans hg28
   refine W.to (D:=Cls w F [qc gP60 gP100 q25 l27 [],qe gP60 qP60 A60 []]) hI (W.nilSl 9 1 (W.loopJ (fun m gs D=>∃ gv9 gl10 gx11 gl12 gq13,∃ gu14:Unit,gs=[(9,VP gP100 x26),(12,gv9),(13,.int .i64 gx11)]∧D=Cls w F [qc gP60 gP100 gq13 gl12 [],qe gP60 qP60 A60 [],.sl gv9 9 1 (gl10.map SR)]∧Gr g100 A100.length gP100 gl12.length∧yc x26 A60 m gl10 gx11 gl12=some r) ⟨.slice none 0 0,[],0,l27,q25,(),rfl,rfl,hGr100,h⟩ ⟨rfl,rfl,rfl,trivial⟩ (sI [1,2,0]) ?_))
   rintro m _ _ ⟨gv9,gl10,gx11,gl12,gq13,gu14,rfl,rfl,hGr100,h⟩
   rcases m with _ | m
   ·rw [yc] at h;cases h
   rw [yc] at h
   generalize hg1:yc x26 A60 m=go1 at h
   rw [qcd] at h
   refine W.seq (W.block (W.seqJ (fun gs D=>∃ gb15 gx16 gs17 gx18 gb19,gs=[(9,VP gP100 x26),(12,gv9),(13,.int .i64 gx11),(14,pt gb15 0),(15,.bool gb19)]∧D=Cls w F [qc gP60 gP100 gq13 gl12 [],qe gP60 qP60 A60 [],.sl gv9 9 1 (gl10.map SR),.obj gb15 [.int .i64 gx16,st gs17,.int .i64 gx18] 105]∧qaZ gl12 x26 gx11 A60 gl10 go1 gx16 gs17 gx18 gb19=some r) ?_ ?_))
   ·obtain ⟨th46,eth46,h⟩:=qd h
    refine W.to (D:=Cls w F [.obj (gP100 x26.toNat) [VP gP60 th46.d_,.int .i64 th46.from_,.int .i64 th46.size_,.int .i64 th46.epoch_,.int .i64 th46.at_,.int .i64 th46.seq_,.bool th46.fell_] 100,qc gP60 gP100 gq13 gl12 (x26.toNat :: []),qe gP60 qP60 A60 [],.sl gv9 9 1 (gl10.map SR)]) (fun _ hw=>hw.arOpen (p:=0) rfl eth46 List.not_mem_nil) (W.drawn2 (k:=16) (stC [[9,14],[14]] [Cls w F [.obj (gP100 x26.toNat) [VP gP60 th46.d_,.int .i64 th46.from_,.int .i64 th46.size_,.int .i64 th46.epoch_,.int .i64 th46.at_,.int .i64 th46.seq_,.bool th46.fell_] 100,qc gP60 gP100 gq13 gl12 (x26.toNat :: []),qe gP60 qP60 A60 [],.sl gv9 9 1 (gl10.map SR)],Cls w F [qe gP60 qP60 A60 [],.sl gv9 9 1 (gl10.map SR)]] (Cls w F [qe gP60 qP60 A60 [],.sl gv9 9 1 (gl10.map SR)])) rfl mixed (fun _ hw=>hw.drew) (Sc.now (by kernel_rfl) hI) (V2.zz [] (Zc.on' (Zc.on' (Zc.fin hI) hI) (sI [2,3])) (fun hz64=>(V2.r [0,1] (by kernel_rfl) rfl (V2.apNil (i:=2) (Nx2.of [] (by kernel_rfl) rfl hz64) rfl rfl rfl eth46 (V2.q 3 [] hz64 rfl rfl (Y.fieldP xF rfl) (V2.zz [9,14] (Zc.at1 hI) (fun hz66=>(V2.q 4 [9,14] hz66 rfl rfl (Y.loadP (i:=0) ag3 rfl rfl rfl) (V2.r [5] (by kernel_rfl) rfl (V2.apNil (i:=6) (Nx2.of [] (by kernel_rfl) rfl hz64) rfl rfl rfl eth46 (V2.q 7 [] hz64 rfl rfl (Y.fieldP ja rfl) (V2.q 8 [9,14] hz66 rfl rfl (Y.loadP (i:=0) ag3 rfl rfl rfl) (V2.eff2 (i1:=9) (i2:=13) (by kernel_rfl) rfl rfl ?_ ?_))))))))))))))
    ·refine L.to (D:=Cls w F [qc gP60 gP100 gq13 gl12 [],qe gP60 qP60 A60 [],.sl gv9 9 1 (gl10.map SR)]) (fun _ hw=>hw.arShut (hs':=(x26.toNat :: [])) [0,1,2,3] eth46 (by decide) rfl (fun _=>List.mem_cons) List.not_mem_nil) (L.to (D:=Cls w F [qe gP60 qP60 A60 [],qc gP60 gP100 gq13 gl12 [],.sl gv9 9 1 (gl10.map SR)]) (sI [1,0,2]) ?_)
     obtain ⟨x68,b69,e70,h⟩:=qB h
     refine L.doesP (A:=[qe gP60 qP60 A60 [],qc gP60 gP100 gq13 gl12 []]) (M:=[.sl gv9 9 1 (gl10.map SR)]) rfl qkh rfl (fun w' hw=>W39 x26 th46.at_ th46.seq_ A60 gl12 gP60 gP100 qP60 gq13 w' _ e70 _ hw.lend) ?_
     rintro _ _ ⟨rfl,rfl⟩
     refine L.to (D:=Cls w F [qe gP60 qP60 A60 [],qc gP60 gP100 gq13 gl12 [],.sl gv9 9 1 (gl10.map SR)]) hI (L.nil (E.toV2 (stC [[14]] [Cls w F [qe gP60 qP60 A60 [],.sl gv9 9 1 (gl10.map SR)]] (Cls w F [qe gP60 qP60 A60 [],.sl gv9 9 1 (gl10.map SR)])) 9 (by kernel_rfl) (Sc.past rfl (Sc.stay hI (Sc.stayD hI))) (Sc.now (by kernel_rfl) (sI [0,2])) (V2.zz [] (Zc.on' (Zc.fin hI) hI) (fun hz71=>(V2.r [10,11] (by kernel_rfl) rfl (V2.iteB (i:=12) h (Nx2.of [] (by kernel_rfl) rfl hz71) rfl rfl rfl (Y.extract rfl rfl) (fun c72 h=>?_) (fun c72 h=>?_)))))))
     ·refine V2.eff (i:=13) (by kernel_rfl) rfl (L.alloc rfl qe8 ?_)
      intro b73
      exact L.nil (E.toV2 (stC [[14]] [Cls w F [.obj b73 [.int .i64 0,st [],.int .i64 0] 105,qe gP60 qP60 A60 [],.sl gv9 9 1 (gl10.map SR)]] (Cls w F [qe gP60 qP60 A60 [],.sl gv9 9 1 (gl10.map SR)])) 13 (by kernel_rfl) (Sc.stay (sI [1,2]) (Sc.stayD hI)) (Sc.now (by kernel_rfl) (sI [0,1,3])) (V2.eff (i:=14) (by kernel_rfl) rfl (L.store (i:=0) (vs:=[.int .i64 x68.epoch_,st x68.text_,.int .i64 x68.size_]) zE rfl rfl rfl rfl (by simp [Value.oneCell',Value.cells,st,pt,el]) rfl nb (L.nil (E.toV2 (stC [] [] (Cls w F [qe gP60 qP60 A60 [],.sl gv9 9 1 (gl10.map SR)])) 14 (by kernel_rfl) (Sc.past rfl (Sc.stayD hI)) (Sc.atD (sI [1,3])) (V2.r [15] (by kernel_rfl) rfl (V2.done (by kernel_rfl) (E.jJ ⟨b73,x68.epoch_,x68.text_,x68.size_,true,rfl,rfl,h⟩ (sI [2,1,3,0])))))))))
     refine V2.eff (i:=13) (by kernel_rfl) rfl (L.alloc rfl qe8 ?_)
     intro b75
     exact L.nil (E.toV2 (stC [[14]] [Cls w F [.obj b75 [.int .i64 0,st [],.int .i64 0] 105,qe gP60 qP60 A60 [],.sl gv9 9 1 (gl10.map SR)]] (Cls w F [qe gP60 qP60 A60 [],.sl gv9 9 1 (gl10.map SR)])) 13 (by kernel_rfl) (Sc.stay (sI [1,2]) (Sc.stayD hI)) (Sc.now (by kernel_rfl) (sI [0,1,3])) (V2.eff (i:=14) (by kernel_rfl) rfl (L.store (i:=0) (vs:=[.int .i64 x68.epoch_,st x68.text_,.int .i64 x68.size_]) zE rfl rfl rfl rfl (by simp [Value.oneCell',Value.cells,st,pt,el]) rfl nb (L.nil (E.toV2 (stC [] [] (Cls w F [qe gP60 qP60 A60 [],.sl gv9 9 1 (gl10.map SR)])) 14 (by kernel_rfl) (Sc.past rfl (Sc.stayD hI)) (Sc.atD (sI [1,3])) (V2.r [15] (by kernel_rfl) rfl (V2.done (by kernel_rfl) (E.jJ ⟨b75,x68.epoch_,x68.text_,x68.size_,false,rfl,rfl,h⟩ (sI [2,1,3,0])))))))))
    refine L.alloc rfl qe8 ?_
    intro b77
    refine L.nil (E.toV2 (stC [[9,14],[14]] [Cls w F [.obj b77 [.int .i64 0,st [],.int .i64 0] 105,.obj (gP100 x26.toNat) [VP gP60 th46.d_,.int .i64 th46.from_,.int .i64 th46.size_,.int .i64 th46.epoch_,.int .i64 th46.at_,.int .i64 th46.seq_,.bool th46.fell_] 100,qc gP60 gP100 gq13 gl12 (x26.toNat :: []),qe gP60 qP60 A60 [],.sl gv9 9 1 (gl10.map SR)],Cls w F [.obj b77 [.int .i64 0,st [],.int .i64 0] 105,qe gP60 qP60 A60 [],.sl gv9 9 1 (gl10.map SR)]] (Cls w F [qe gP60 qP60 A60 [],.sl gv9 9 1 (gl10.map SR)])) 13 (by kernel_rfl) (Sc.stay (sI [1,2,3,4]) (Sc.stay (sI [1,2]) (Sc.stayD hI))) (Sc.now (by kernel_rfl) hI) (V2.eff (i:=9) (by kernel_rfl) rfl (L.to (D:=Cls w F [qc gP60 gP100 gq13 gl12 [],.obj b77 [.int .i64 0,st [],.int .i64 0] 105,qe gP60 qP60 A60 [],.sl gv9 9 1 (gl10.map SR)]) (fun _ hw=>hw.arShut (hs':=(x26.toNat :: [])) [1,2,0,3,4] eth46 (by decide) rfl (fun _=>List.mem_cons) List.not_mem_nil) (L.to (D:=Cls w F [qe gP60 qP60 A60 [],qc gP60 gP100 gq13 gl12 [],.obj b77 [.int .i64 0,st [],.int .i64 0] 105,.sl gv9 9 1 (gl10.map SR)]) (sI [2,0,1,3]) ?_))))
    obtain ⟨x78,b79,e80,h⟩:=qB h
    refine L.doesP (A:=[qe gP60 qP60 A60 [],qc gP60 gP100 gq13 gl12 []]) (M:=[.obj b77 [.int .i64 0,st [],.int .i64 0] 105,.sl gv9 9 1 (gl10.map SR)]) rfl qkh rfl (fun w' hw=>W39 x26 th46.at_ th46.seq_ A60 gl12 gP60 gP100 qP60 gq13 w' _ e80 _ hw.lend) ?_
    rintro _ _ ⟨rfl,rfl⟩
    refine L.to (D:=Cls w F [qe gP60 qP60 A60 [],qc gP60 gP100 gq13 gl12 [],.obj b77 [.int .i64 0,st [],.int .i64 0] 105,.sl gv9 9 1 (gl10.map SR)]) hI (L.nil (E.toV2 (stC [[14]] [Cls w F [qe gP60 qP60 A60 [],.obj b77 [.int .i64 0,st [],.int .i64 0] 105,.sl gv9 9 1 (gl10.map SR)]] (Cls w F [qe gP60 qP60 A60 [],.sl gv9 9 1 (gl10.map SR)])) 9 (by kernel_rfl) (Sc.past rfl (Sc.stay (sI [1,0,2]) (Sc.stayD hI))) (Sc.now (by kernel_rfl) (sI [0,2,3])) (V2.zz [] (Zc.on' (Zc.fin hI) (sI [0,2])) (fun hz81=>(V2.r [10,11] (by kernel_rfl) rfl (V2.iteB (i:=12) h (Nx2.of [] (by kernel_rfl) rfl hz81) rfl rfl rfl (Y.extract rfl rfl) (fun c82 h=>?_) (fun c82 h=>?_)))))))
    ·exact V2.eff (i:=14) (by kernel_rfl) rfl (L.store (i:=2) (vs:=[.int .i64 x78.epoch_,st x78.text_,.int .i64 x78.size_]) zE rfl rfl rfl rfl (by simp [Value.oneCell',Value.cells,st,pt,el]) rfl nb (L.nil (E.toV2 (stC [] [] (Cls w F [qe gP60 qP60 A60 [],.sl gv9 9 1 (gl10.map SR)])) 14 (by kernel_rfl) (Sc.past rfl (Sc.stayD hI)) (Sc.atD (sI [0,3])) (V2.r [15] (by kernel_rfl) rfl (V2.done (by kernel_rfl) (E.jJ ⟨b77,x78.epoch_,x78.text_,x78.size_,true,rfl,rfl,h⟩ (sI [1,0,3,2])))))))
    exact V2.eff (i:=14) (by kernel_rfl) rfl (L.store (i:=2) (vs:=[.int .i64 x78.epoch_,st x78.text_,.int .i64 x78.size_]) zE rfl rfl rfl rfl (by simp [Value.oneCell',Value.cells,st,pt,el]) rfl nb (L.nil (E.toV2 (stC [] [] (Cls w F [qe gP60 qP60 A60 [],.sl gv9 9 1 (gl10.map SR)])) 14 (by kernel_rfl) (Sc.past rfl (Sc.stayD hI)) (Sc.atD (sI [0,3])) (V2.r [15] (by kernel_rfl) rfl (V2.done (by kernel_rfl) (E.jJ ⟨b77,x78.epoch_,x78.text_,x78.size_,false,rfl,rfl,h⟩ (sI [1,0,3,2])))))))
   rintro _ _ ⟨gb15,gx16,gs17,gx18,gb19,rfl,rfl,h⟩
   rw [qaZ] at h
   rcases gb19 with _ | _
   ·replace h:=zZ h
    refine W.seq (W.seq ?_)
    obtain ⟨th31,eth31,h⟩:=qd h
    refine W.to (D:=Cls w F [.obj (gP100 x26.toNat) [VP gP60 th31.d_,.int .i64 th31.from_,.int .i64 th31.size_,.int .i64 th31.epoch_,.int .i64 th31.at_,.int .i64 th31.seq_,.bool th31.fell_] 100,qc gP60 gP100 gq13 gl12 (x26.toNat :: []),qe gP60 qP60 A60 [],.sl gv9 9 1 (gl10.map SR),.obj gb15 [.int .i64 gx16,st gs17,.int .i64 gx18] 105]) (fun _ hw=>hw.arOpen (p:=0) rfl eth31 List.not_mem_nil) (W.quietC mixed (by kernel_rfl) (fun _ hw=>hw.drew) (fun hC=>(U.r 1 rfl (U.y rfl (Y.not rfl) (U.r 15 rfl (U.nil (E.thenN (W.condT rfl (W.exit (E.thenX (E.blockY rfl (E.thenX (E.KLX (E.blockX ?_))))))))))))))
    exact E.to (D:=Cls w F [qc gP60 gP100 gq13 gl12 [],qe gP60 qP60 A60 [],.sl gv9 9 1 (gl10.map SR),.obj gb15 [.int .i64 gx16,st gs17,.int .i64 gx18] 105]) (fun _ hw=>hw.arShut (hs':=(x26.toNat :: [])) [0,1,2,3,4] eth31 (by decide) rfl (fun _=>List.mem_cons) List.not_mem_nil) (E.jJ ⟨x26,gv9,gl10,gP100,gl12,gq13,(),rfl,rfl,hGr100,h⟩ (sI [1,0,2]))
   replace h:=zY h
   refine W.seq (W.seq ?_)
   obtain ⟨th32,eth32,h⟩:=qd h
   refine W.to (D:=Cls w F [.obj (gP100 x26.toNat) [VP gP60 th32.d_,.int .i64 th32.from_,.int .i64 th32.size_,.int .i64 th32.epoch_,.int .i64 th32.at_,.int .i64 th32.seq_,.bool th32.fell_] 100,qc gP60 gP100 gq13 gl12 (x26.toNat :: []),qe gP60 qP60 A60 [],.sl gv9 9 1 (gl10.map SR),.obj gb15 [.int .i64 gx16,st gs17,.int .i64 gx18] 105]) (fun _ hw=>hw.arOpen (p:=0) rfl eth32 List.not_mem_nil) (W.quietC mixed (by kernel_rfl) (fun _ hw=>hw.drew) (fun hC=>(U.r 1 rfl (U.y rfl (Y.not rfl) (U.r 1 rfl (U.take rfl (U.y rfl (Y.fieldP qaN rfl) (U.take rfl (U.y rfl (Y.loadP (i:=4) ag3 rfl rfl rfl) (U.r 1 rfl (U.take rfl (U.ite h rfl (Y.lss rfl rfl) (fun c33 h=>?_) (fun c33 h=>?_)))))))))))))
   ·exact U.r 10 rfl (U.nil (E.thenN (W.condT rfl (W.exit (E.thenX (E.blockY rfl (E.thenX (E.KLX (E.blockX (E.to (D:=Cls w F [qc gP60 gP100 gq13 gl12 [],qe gP60 qP60 A60 [],.sl gv9 9 1 (gl10.map SR),.obj gb15 [.int .i64 gx16,st gs17,.int .i64 gx18] 105]) (fun _ hw=>hw.arShut (hs':=(x26.toNat :: [])) [0,1,2,3,4] eth32 (by decide) rfl (fun _=>List.mem_cons) List.not_mem_nil) (E.jJ ⟨x26,gv9,gl10,gP100,gl12,gq13,(),rfl,rfl,hGr100,h⟩ (sI [1,0,2]))))))))))))
   refine U.r 2 rfl (U.take rfl (U.y rfl (Y.fieldP qaN rfl) (U.take rfl (U.y rfl (Y.loadP (i:=4) ag3 rfl rfl rfl) (U.r 1 rfl (U.take rfl (U.y rfl (Y.apNil rfl eth32) (U.take rfl (U.y rfl (Y.fieldP xj rfl) (U.take rfl (U.y rfl (Y.loadP (i:=0) ag3 rfl rfl rfl) (U.take rfl (U.ite h rfl (Y.gtr rfl rfl) (fun c34 h=>?_) (fun c34 h=>?_))))))))))))))
   ·exact U.r 1 rfl (U.nil (E.thenN (W.condT rfl (W.exit (E.thenX (E.blockY rfl (E.thenX (E.KLX (E.blockX (E.to (D:=Cls w F [qc gP60 gP100 gq13 gl12 [],qe gP60 qP60 A60 [],.sl gv9 9 1 (gl10.map SR),.obj gb15 [.int .i64 gx16,st gs17,.int .i64 gx18] 105]) (fun _ hw=>hw.arShut (hs':=(x26.toNat :: [])) [0,1,2,3,4] eth32 (by decide) rfl (fun _=>List.mem_cons) List.not_mem_nil) (E.jJ ⟨x26,gv9,gl10,gP100,gl12,gq13,(),rfl,rfl,hGr100,h⟩ (sI [1,0,2]))))))))))))
   refine U.r 1 rfl (U.nil (E.thenN (W.condF rfl (W.skip (E.thenN (sr (L.y rfl (Y.fieldP qaN rfl) (L.y rfl (Y.loadP (i:=4) ag3 rfl rfl rfl) (L.r 1 rfl (ln (W.seq ?_)))))))))))
   refine W.drawn2 (k:=10) (stC [[9]] [Cls w F [.obj (gP100 x26.toNat) [VP gP60 th32.d_,.int .i64 th32.from_,.int .i64 th32.size_,.int .i64 th32.epoch_,.int .i64 th32.at_,.int .i64 th32.seq_,.bool th32.fell_] 100,qc gP60 gP100 gq13 gl12 (x26.toNat :: []),qe gP60 qP60 A60 [],.sl gv9 9 1 (gl10.map SR),.obj gb15 [.int .i64 gx16,st gs17,.int .i64 gx18] 105]] (Cls w F [qc gP60 gP100 gq13 gl12 (x26.toNat :: []),qe gP60 qP60 A60 [],.sl gv9 9 1 (gl10.map SR),.obj gb15 [.int .i64 gx16,st gs17,.int .i64 gx18] 105])) rfl mixed (fun _ hw=>hw.drew) (Sc.now (by kernel_rfl) hI) (V2.zz [] (Zc.on' (Zc.fin hI) (sI [1,2,3,4])) (fun hz37=>(V2.r [0] (by kernel_rfl) rfl (V2.apNil (i:=1) (Nx2.of [] (by kernel_rfl) rfl hz37) rfl rfl rfl eth32 (V2.q 2 [] hz37 rfl rfl (Y.fieldP xF rfl) (V2.zz [9] (Zc.at1 hI) (fun hz38=>(V2.q 3 [9] hz38 rfl rfl (Y.loadP (i:=0) ag3 rfl rfl rfl) (V2.q 4 [] hz37 rfl rfl (Y.fieldP qhP rfl) (V2.q 5 [] hz37 rfl rfl (Y.loadP (i:=3) ag3 rfl rfl rfl) (V2.m (i:=6) (V':=fun x39=>.int .i64 x39) h (Nx2.of [] (by kernel_rfl) rfl hz37) rfl rfl rfl (Y.addM rfl rfl) (fun x39 ex39 h=>(V2.apNil (i:=7) (Nx2.of [] (by kernel_rfl) rfl hz37) rfl rfl rfl eth32 (V2.q 8 [] hz37 rfl rfl (Y.fieldP xF rfl) (V2.eff (i:=9) (by kernel_rfl) rfl (L.store (i:=0) (vs:=[.int .i64 x39]) sz3 rfl rfl rfl rfl (by simp [Value.oneCell',Value.cells,st,pt,el]) rfl nb ?_))))))))))))))))
   refine L.nil (E.toV2 (stC [] [] (Cls w F [qc gP60 gP100 gq13 gl12 (x26.toNat :: []),qe gP60 qP60 A60 [],.sl gv9 9 1 (gl10.map SR),.obj gb15 [.int .i64 gx16,st gs17,.int .i64 gx18] 105])) 9 (by kernel_rfl) (Sc.past rfl (Sc.stayD hI)) (Sc.atD (sI [1,2,3,4])) (V2.done (by kernel_rfl) (E.thenN (W.region (L.r 1 rfl (L.y rfl (Y.fieldP qhQ rfl) (L.y rfl (Y.loadP (i:=4) ag9 rfl rfl rfl) (L.litOne rfl Tryz.underlying57 eL9 rfl rfl ?_))))))))
   intro b40
   refine L.appM (i:=4) (g:=SR) (l:=gl10) (more:=[gs17]) h rfl Tryz.underlying57 eL9 rfl rfl rfl (fun w hw=>As.at_ (hw.get (i:=0) rfl)) (qv _) rfl ?_
   intro v41 l42 el42 h
   refine L.r 1 rfl (L.nil (E.blockN (E.thenN (W.region (L.r 1 rfl (L.y rfl (Y.apNil rfl eth32) (L.y rfl (Y.fieldP ja rfl) (L.y rfl (Y.loadP (i:=2) ag3 rfl rfl rfl) (L.m (V:=fun x43=>.int .i64 x43) h rfl (Y.addM rfl rfl) (fun x43 ex43 h=>(L.y rfl (Y.apNil rfl eth32) (L.y rfl (Y.fieldP ja rfl) (L.store (i:=2) (vs:=[.int .i64 x43]) sz3 rfl rfl rfl rfl (by simp [Value.oneCell',Value.cells,st,pt,el]) rfl nb (L.nil ?_))))))))))))))
   obtain ⟨l44,el44,h⟩:=qd h
   refine E.arClose (row:=TLog.rowA gP60) (sub:=TLog.subA gP60) (e:=100) (g:=gP100) (gh:=gq13) (vs':=[]) (hs:=[]) (hs':=(x26.toNat :: [])) (m':=[.sl v41 9 1 (l42.map SR),.sl (sv b40 1) 9 1 (([gs17]).map SR),qe gP60 qP60 A60 [],.obj gb15 [.int .i64 gx16,st gs17,.int .i64 gx18] 105]) [2,3,0,1,4,5] el44 (by decide) rfl (fun _=>List.mem_cons) List.not_mem_nil ?_
   intro q45
   replace hGr100:=hGr100.upd el44
   exact E.to (D:=Cls w F [qc gP60 gP100 q45 l44 [],.sl v41 9 1 (l42.map SR),.sl (sv b40 1) 9 1 (([gs17]).map SR),qe gP60 qP60 A60 [],.obj gb15 [.int .i64 gx16,st gs17,.int .i64 gx18] 105]) hI (E.aJ ⟨v41,l42,gx16,l44,q45,(),rfl,rfl,hGr100,by rw [hg1];exact h⟩ (sI [0,3,1]))
  rintro _ _ ⟨gx2,gv3,gl4,gP100,gl6,gq7,gu8,rfl,rfl,hGr100,h⟩
  rw [yd] at h
  refine W.seq (sr (L.r 1 rfl ?_))
  obtain ⟨l17,l18,x19,e20,h⟩:=qW h
  refine L.doesP (A:=[qe gP60 qP60 A60 [],qc gP60 gP100 gq7 gl6 []]) (M:=[.sl gv3 9 1 (gl4.map SR)]) rfl qkg rfl (fun w' hw=>W40 gx2 A60 gl6 gP60 gP100 qP60 gq7 w' _ e20 _ hw.lend) ?_
  rintro _ _ ⟨q21,q22,rfl,rfl⟩
  obtain ⟨_,c23,h⟩:=qd h
  replace hGr100:=hGr100.len (qH c23)
  refine L.to (D:=Cls w F [qe gP60 q21 l17 [],qc gP60 gP100 q22 l18 [],.sl gv3 9 1 (gl4.map SR)]) hI (L.r 1 rfl (nsr (L.r 1 rfl (L.ite h rfl (Y.neq rfl rfl) (fun c24 h=>?_) (fun c24 h=>?_)))))
  ·refine ln (W.condT rfl (sr (L.r 4 rfl (ln (W.ret (E.thenR (E.ret3 rfl rfl rfl rfl (fun w1 hw=>?_))))))))
   cases h
   exact ⟨_,_,rfl,⟨_,_,_,_,(hg100 ▸ hGr100),rfl,rfl⟩,(hw.nilSl 9 1).sel [1,2,0] (by decide) rfl⟩
  refine ln (W.condF rfl (W.skip (E.thenN (sr (L.r 5 rfl (ln (W.ret (E.ret3 rfl rfl rfl rfl (fun w1 hw=>?_)))))))))
  cases h
  exact ⟨_,_,rfl,⟨_,_,_,_,(hg100 ▸ hGr100),rfl,rfl⟩,hw⟩
 replace h:=zY h
 refine L.r 14 rfl (ln (W.condT rfl (sr (L.r 3 rfl (ln (W.ret (E.thenR (E.ret3 rfl rfl rfl rfl (fun w1 hw=>?_)))))))))
 cases h
 exact ⟨_,_,rfl,⟨_,_,_,_,(hg100 ▸ hGr100),rfl,rfl⟩,(hw.nilSl 9 1).sel [1,2,0] (by decide) rfl⟩
set_option maxRecDepth 100000 in
set_option maxHeartbeats 8000000 in
theorem W71 (a0:(List UInt8)) (w:World) (r:((List UInt8)×Int×Int)) (h:M71 a0=some r):Does Tryz.prog 71 [st a0] w fun u m=>u=.tuple #[st r.1,.int .i64 r.2.1,.int .i64 r.2.2]∧m=[]:=by
 rw [M71] at h
 refine body (n:=40) Tryz.func71 rfl rfl rfl (Cls.refl w) (sr (L.r 3 rfl (nsr (L.r 1 rfl ?_))))
 obtain ⟨x1,x2,x3,e4,h⟩:=qW h
 refine L.y rfl (Y.does qdc rfl (fun w' hw=>(W68 a0 w' _ e4).mono (fun _ _ h=>h.1))) (L.r 7 rfl (ln (W.seq (W.block (sr (L.r 1 rfl (L.ite h rfl (Y.neq rfl rfl) (fun c5 h=>?_) (fun c5 h=>?_))))))))
 ·refine L.r 1 rfl (ln (W.condT rfl (sr (L.r 4 rfl (ln (W.ret (E.blockR (E.thenR (E.ret3 rfl rfl rfl rfl (fun w1 hw=>?_))))))))))
  cases h
  exact ⟨_,_,rfl,⟨rfl,rfl⟩,hw⟩
 refine L.r 1 rfl (ln (W.condF rfl (sr (L.r 1 rfl (L.ite h rfl (Y.gtr rfl rfl) (fun c6 h=>?_) (fun c6 h=>?_))))))
 ·refine L.r 1 rfl (ln (W.condT rfl (sr (L.r 3 rfl (ln (W.ret (E.blockR (E.thenR (E.ret3 rfl rfl rfl rfl (fun w1 hw=>?_))))))))))
  cases h
  exact ⟨_,_,rfl,⟨rfl,rfl⟩,hw⟩
 refine L.r 1 rfl (ln (W.condF rfl (sr (L.r 1 rfl (L.y rfl (Y.lenS Tryz.underlying9 rfl) (L.r 1 rfl (L.m (V:=fun x7=>.int .i64 x7) h rfl (Y.subM rfl rfl) (fun x7 ex7 h=>(L.y rfl (Y.conv Tryz.underlying3 Tryz.underlying114 rfl) (L.r 1 rfl (L.ite h rfl (Y.lss rfl rfl) (fun c8 h=>?_) (fun c8 h=>?_))))))))))))
 ·refine L.r 1 rfl (ln (W.condT rfl (sr (L.r 3 rfl (ln (W.ret (E.blockR (E.thenR (E.ret3 rfl rfl rfl rfl (fun w1 hw=>?_))))))))))
  cases h
  exact ⟨_,_,rfl,⟨rfl,rfl⟩,hw⟩
 refine L.r 1 rfl (ln (W.condF rfl (W.skip (E.blockN (E.thenN (sr (L.r 4 rfl (L.y rfl (Y.conv Tryz.underlying114 Tryz.underlying3 rfl) (L.m (V:=fun x9=>.int .i64 x9) h rfl (Y.addM rfl rfl) (fun x9 ex9 h=>(L.m (V:=fun s10=>st s10) h rfl (Y.sliceSM Tryz.underlying9 rfl rfl rfl) (fun s10 es10 h=>(L.r 2 rfl ?_)))))))))))))
 refine L.y rfl (Y.conv Tryz.underlying114 Tryz.underlying3 rfl) (L.m (V:=fun x11=>.int .i64 x11) h rfl (Y.addM rfl rfl) (fun x11 ex11 h=>(L.r 3 rfl (ln (W.ret (E.ret3 rfl rfl rfl rfl (fun w1 hw=>?_)))))))
 cases h
 exact ⟨_,_,rfl,⟨rfl,rfl⟩,hw⟩
set_option maxRecDepth 100000 in
set_option maxHeartbeats 8000000 in
theorem W42 (a0:(List UInt8)) (w:World) (r:(Int×(List UInt8)×(List UInt8)×Bool)) (h:M42 a0=some r):Does Tryz.prog 42 [st a0] w fun u m=>u=.tuple #[.int .i64 r.1,st r.2.1,st r.2.2.1,.bool r.2.2.2]∧m=[]:=by
 rw [M42] at h
 refine body (n:=49) Tryz.func42 rfl rfl rfl (Cls.refl w) (sr (L.r 4 rfl (nsr (L.r 1 rfl ?_))))
 obtain ⟨x1,x2,x3,e4,h⟩:=qW h
 refine L.y rfl (Y.does qi4 rfl (fun w' hw=>(W41 a0 w' _ e4).mono (fun _ _ h=>h.1))) (L.r 7 rfl (ln (W.seq (sr (L.cutJ 6 (fun gs D=>∃ gb1,gs=[(0,st a0),(6,.int .i64 x1),(7,.int .i64 x2),(22,.bool gb1)]∧D=Cls w [] []∧qcU x1 a0 x2 gb1=some r) ?_ ?_)))))
 ·refine L.r 1 rfl (L.ite h rfl (Y.neq rfl rfl) (fun c15 h=>?_) (fun c15 h=>?_))
  ·exact L.r 4 rfl (L.nil (E.jJ ⟨true,rfl,rfl,h⟩ hI))
  refine L.r 2 rfl (L.take rfl (L.ite h rfl (Y.lss rfl rfl) (fun c16 h=>?_) (fun c16 h=>?_)))
  ·exact L.r 1 rfl (L.nil (E.jJ ⟨true,rfl,rfl,h⟩ hI))
  exact L.r 1 rfl (L.nil (E.jJ ⟨false,rfl,rfl,h⟩ hI))
 rintro _ _ ⟨gb1,rfl,rfl,h⟩
 rw [qcU] at h
 rcases gb1 with _ | _
 ·replace h:=zZ h
  refine L.r 2 rfl (L.take rfl (L.ite h rfl (Y.geq rfl rfl) (fun c5 h=>?_) (fun c5 h=>?_)))
  ·refine L.r 1 rfl (ln (W.condT rfl (sr (L.r 4 rfl (ln (W.ret (E.thenR (E.ret4 rfl rfl rfl rfl rfl (fun w1 hw=>?_)))))))))
   cases h
   exact ⟨_,_,rfl,⟨rfl,rfl⟩,hw⟩
  refine L.r 1 rfl (ln (W.condF rfl (W.skip (E.thenN (sr (L.r 2 rfl (L.m (V:=fun s6=>st s6) h rfl (Y.sliceSL Tryz.underlying9 rfl rfl) (fun s6 es6 h=>?_))))))))
  obtain ⟨s7,x8,x9,e10,h⟩:=qW h
  refine L.y rfl (Y.does qhS rfl (fun w' hw=>(W71 s6 w' _ e10).mono (fun _ _ h=>h.1))) (L.r 7 rfl (ln (W.seq (sr (L.r 1 rfl (L.ite h rfl (Y.neq rfl rfl) (fun c11 h=>?_) (fun c11 h=>?_)))))))
  ·refine L.r 5 rfl (ln (W.condT rfl (sr (L.r 4 rfl (ln (W.ret (E.thenR (E.ret4 rfl rfl rfl rfl rfl (fun w1 hw=>?_)))))))))
   cases h
   exact ⟨_,_,rfl,⟨rfl,rfl⟩,hw⟩
  refine L.r 2 rfl (L.take rfl (L.y rfl (Y.lenS Tryz.underlying9 rfl) (L.take rfl (L.ite h rfl (Y.gtr rfl rfl) (fun c12 h=>?_) (fun c12 h=>?_)))))
  ·refine L.r 1 rfl (ln (W.condT rfl (sr (L.r 4 rfl (ln (W.ret (E.thenR (E.ret4 rfl rfl rfl rfl rfl (fun w1 hw=>?_)))))))))
   cases h
   exact ⟨_,_,rfl,⟨rfl,rfl⟩,hw⟩
  refine L.r 1 rfl (ln (W.condF rfl (W.skip (E.thenN (W.seq (W.quietC mixed (by kernel_rfl) (fun _ hw=>hw.drew) (fun hC=>(U.r 5 rfl (U.m (V:=fun x13=>.int .i64 x13) h rfl (Y.addM rfl rfl) (fun x13 ex13 h=>(U.m (V:=fun s14=>st s14) h rfl (Y.sliceSL Tryz.underlying9 rfl rfl) (fun s14 es14 h=>(U.r 4 rfl (U.nil (E.thenN ?_)))))))))))))))
  refine W.ret (E.ret4 rfl rfl rfl rfl rfl (fun w1 hw=>?_))
  cases h
  exact ⟨_,_,rfl,⟨rfl,rfl⟩,hw⟩
 replace h:=zY h
 refine L.r 4 rfl (ln (W.condT rfl (sr (L.r 4 rfl (ln (W.ret (E.thenR (E.ret4 rfl rfl rfl rfl rfl (fun w1 hw=>?_)))))))))
 cases h
 exact ⟨_,_,rfl,⟨rfl,rfl⟩,hw⟩
end Go.Proofs.YtbjidacdnjojnaaGreatDoor
