import Derived.Test.YtlecphianicdhaaGreatTwM
import Derived.Test.YtlecphianicdhaaGreatChecked
import Derived.KernelRfl
import Derived.Test.YtlecphianicdhaaGreatZe
namespace Go.Proofs.YtlecphianicdhaaGreat
open Go.S
set_option linter.unusedVariables false
set_option linter.unusedSimpArgs false
theorem mixed:Tryz.prog.follows .mixedOrders=true:=by kernel_rfl
theorem ag3:aggB Tryz.prog 3 false=true:=by kernel_rfl
theorem ag4:aggB Tryz.prog 4 false=true:=by kernel_rfl
theorem ag22:aggB Tryz.prog 22 false=true:=by kernel_rfl
theorem ag23:aggB Tryz.prog 23 false=true:=by kernel_rfl
theorem ag25:aggB Tryz.prog 25 true=true:=by kernel_rfl
theorem ag34:aggB Tryz.prog 34 false=true:=by kernel_rfl
theorem ag40:aggB Tryz.prog 40 true=true:=by kernel_rfl
theorem ag44:aggB Tryz.prog 44 false=true:=by kernel_rfl
theorem ag45:aggB Tryz.prog 45 false=true:=by kernel_rfl
theorem ag63:aggB Tryz.prog 63 false=true:=by kernel_rfl
theorem ag65:aggB Tryz.prog 65 true=true:=by kernel_rfl
theorem ag68:aggB Tryz.prog 68 true=true:=by kernel_rfl
theorem ag75:aggB Tryz.prog 75 false=true:=by kernel_rfl
theorem ag90:aggB Tryz.prog 90 true=true:=by kernel_rfl
theorem ag93:aggB Tryz.prog 93 false=true:=by kernel_rfl
theorem ag111:aggB Tryz.prog 111 false=true:=by kernel_rfl
theorem eL3:elemB Tryz.prog 3 1 8=true:=by kernel_rfl
theorem eL4:elemB Tryz.prog 4 1 1=true:=by kernel_rfl
theorem eL23:elemB Tryz.prog 23 1 24=true:=by kernel_rfl
theorem eL40:elemB Tryz.prog 40 3 24=true:=by kernel_rfl
theorem eL65:elemB Tryz.prog 65 3 56=true:=by kernel_rfl
theorem eL68:elemB Tryz.prog 68 2 16=true:=by kernel_rfl
theorem eL90:elemB Tryz.prog 90 2 16=true:=by kernel_rfl
theorem eL93:elemB Tryz.prog 93 1 24=true:=by kernel_rfl
theorem en4:entB Tryz.prog 4=true:=by kernel_rfl
theorem en5:entB Tryz.prog 5=true:=by kernel_rfl
theorem en6:entB Tryz.prog 6=true:=by kernel_rfl
theorem en7:entB Tryz.prog 7=true:=by kernel_rfl
theorem en8:entB Tryz.prog 8=true:=by kernel_rfl
theorem en9:entB Tryz.prog 9=true:=by kernel_rfl
theorem en10:entB Tryz.prog 10=true:=by kernel_rfl
theorem en11:entB Tryz.prog 11=true:=by kernel_rfl
theorem en12:entB Tryz.prog 12=true:=by kernel_rfl
theorem en13:entB Tryz.prog 13=true:=by kernel_rfl
theorem en14:entB Tryz.prog 14=true:=by kernel_rfl
theorem en15:entB Tryz.prog 15=true:=by kernel_rfl
theorem en16:entB Tryz.prog 16=true:=by kernel_rfl
theorem en17:entB Tryz.prog 17=true:=by kernel_rfl
theorem en18:entB Tryz.prog 18=true:=by kernel_rfl
theorem en19:entB Tryz.prog 19=true:=by kernel_rfl
theorem en20:entB Tryz.prog 20=true:=by kernel_rfl
theorem en21:entB Tryz.prog 21=true:=by kernel_rfl
theorem en22:entB Tryz.prog 22=true:=by kernel_rfl
theorem en23:entB Tryz.prog 23=true:=by kernel_rfl
theorem en24:entB Tryz.prog 24=true:=by kernel_rfl
theorem en25:entB Tryz.prog 25=true:=by kernel_rfl
theorem en26:entB Tryz.prog 26=true:=by kernel_rfl
theorem en27:entB Tryz.prog 27=true:=by kernel_rfl
theorem en28:entB Tryz.prog 28=true:=by kernel_rfl
theorem en29:entB Tryz.prog 29=true:=by kernel_rfl
theorem en30:entB Tryz.prog 30=true:=by kernel_rfl
theorem en31:entB Tryz.prog 31=true:=by kernel_rfl
theorem en32:entB Tryz.prog 32=true:=by kernel_rfl
theorem en33:entB Tryz.prog 33=true:=by kernel_rfl
theorem en34:entB Tryz.prog 34=true:=by kernel_rfl
theorem en35:entB Tryz.prog 35=true:=by kernel_rfl
theorem en36:entB Tryz.prog 36=true:=by kernel_rfl
theorem en37:entB Tryz.prog 37=true:=by kernel_rfl
theorem en38:entB Tryz.prog 38=true:=by kernel_rfl
theorem en39:entB Tryz.prog 39=true:=by kernel_rfl
theorem en40:entB Tryz.prog 40=true:=by kernel_rfl
theorem en41:entB Tryz.prog 41=true:=by kernel_rfl
theorem en42:entB Tryz.prog 42=true:=by kernel_rfl
theorem en43:entB Tryz.prog 43=true:=by kernel_rfl
theorem en44:entB Tryz.prog 44=true:=by kernel_rfl
theorem en45:entB Tryz.prog 45=true:=by kernel_rfl
theorem en46:entB Tryz.prog 46=true:=by kernel_rfl
theorem en47:entB Tryz.prog 47=true:=by kernel_rfl
theorem en48:entB Tryz.prog 48=true:=by kernel_rfl
theorem en49:entB Tryz.prog 49=true:=by kernel_rfl
theorem en50:entB Tryz.prog 50=true:=by kernel_rfl
theorem en51:entB Tryz.prog 51=true:=by kernel_rfl
theorem en52:entB Tryz.prog 52=true:=by kernel_rfl
theorem en53:entB Tryz.prog 53=true:=by kernel_rfl
theorem en54:entB Tryz.prog 54=true:=by kernel_rfl
theorem en57:entB Tryz.prog 57=true:=by kernel_rfl
theorem en58:entB Tryz.prog 58=true:=by kernel_rfl
theorem en59:entB Tryz.prog 59=true:=by kernel_rfl
theorem en62:entB Tryz.prog 62=true:=by kernel_rfl
theorem en63:entB Tryz.prog 63=true:=by kernel_rfl
theorem en64:entB Tryz.prog 64=true:=by kernel_rfl
theorem en65:entB Tryz.prog 65=true:=by kernel_rfl
theorem en66:entB Tryz.prog 66=true:=by kernel_rfl
theorem en67:entB Tryz.prog 67=true:=by kernel_rfl
theorem en68:entB Tryz.prog 68=true:=by kernel_rfl
theorem en69:entB Tryz.prog 69=true:=by kernel_rfl
theorem en72:entB Tryz.prog 72=true:=by kernel_rfl
theorem en73:entB Tryz.prog 73=true:=by kernel_rfl
theorem en75:entB Tryz.prog 75=true:=by kernel_rfl
theorem en77:entB Tryz.prog 77=true:=by kernel_rfl
theorem en78:entB Tryz.prog 78=true:=by kernel_rfl
theorem en79:entB Tryz.prog 79=true:=by kernel_rfl
theorem en80:entB Tryz.prog 80=true:=by kernel_rfl
theorem en94:entB Tryz.prog 94=true:=by kernel_rfl
theorem en95:entB Tryz.prog 95=true:=by kernel_rfl
theorem en96:entB Tryz.prog 96=true:=by kernel_rfl
theorem en97:entB Tryz.prog 97=true:=by kernel_rfl
theorem fd25_0:fieldB Tryz.prog 25 0 0=true:=by kernel_rfl
theorem fd25_1:fieldB Tryz.prog 25 1 1=true:=by kernel_rfl
theorem fd25_2:fieldB Tryz.prog 25 2 2=true:=by kernel_rfl
theorem fd38_0:fieldB Tryz.prog 38 0 0=true:=by kernel_rfl
theorem fd38_1:fieldB Tryz.prog 38 1 1=true:=by kernel_rfl
theorem fd38_2:fieldB Tryz.prog 38 2 13=true:=by kernel_rfl
theorem fd38_3:fieldB Tryz.prog 38 3 25=true:=by kernel_rfl
theorem fd40_0:fieldB Tryz.prog 40 0 0=true:=by kernel_rfl
theorem fd40_1:fieldB Tryz.prog 40 1 1=true:=by kernel_rfl
theorem fd40_2:fieldB Tryz.prog 40 2 2=true:=by kernel_rfl
theorem fd47_0:fieldB Tryz.prog 47 0 0=true:=by kernel_rfl
theorem fd47_1:fieldB Tryz.prog 47 1 1=true:=by kernel_rfl
theorem fd47_2:fieldB Tryz.prog 47 2 2=true:=by kernel_rfl
theorem fd47_3:fieldB Tryz.prog 47 3 3=true:=by kernel_rfl
theorem fd65_0:fieldB Tryz.prog 65 0 0=true:=by kernel_rfl
theorem fd65_1:fieldB Tryz.prog 65 1 1=true:=by kernel_rfl
theorem fd65_2:fieldB Tryz.prog 65 2 2=true:=by kernel_rfl
theorem fd68_0:fieldB Tryz.prog 68 0 0=true:=by kernel_rfl
theorem fd68_1:fieldB Tryz.prog 68 1 1=true:=by kernel_rfl
theorem fd90_0:fieldB Tryz.prog 90 0 0=true:=by kernel_rfl
theorem fd90_1:fieldB Tryz.prog 90 1 1=true:=by kernel_rfl
theorem fd126_0:fieldB Tryz.prog 126 0 0=true:=by kernel_rfl
theorem fd126_1:fieldB Tryz.prog 126 1 1=true:=by kernel_rfl
theorem fd126_2:fieldB Tryz.prog 126 2 2=true:=by kernel_rfl
theorem fd126_3:fieldB Tryz.prog 126 3 3=true:=by kernel_rfl
theorem fd126_4:fieldB Tryz.prog 126 4 4=true:=by kernel_rfl
theorem fd126_5:fieldB Tryz.prog 126 5 5=true:=by kernel_rfl
theorem sz3:szB Tryz.prog 3 1=true:=by kernel_rfl
theorem sz4:szB Tryz.prog 4 1=true:=by kernel_rfl
theorem sz22:szB Tryz.prog 22 1=true:=by kernel_rfl
theorem sz23:szB Tryz.prog 23 1=true:=by kernel_rfl
theorem sz25:szB Tryz.prog 25 3=true:=by kernel_rfl
theorem sz34:szB Tryz.prog 34 1=true:=by kernel_rfl
theorem sz36:szB Tryz.prog 36 12=true:=by kernel_rfl
theorem sz40:szB Tryz.prog 40 3=true:=by kernel_rfl
theorem sz47:szB Tryz.prog 47 4=true:=by kernel_rfl
theorem sz63:szB Tryz.prog 63 1=true:=by kernel_rfl
theorem sz65:szB Tryz.prog 65 3=true:=by kernel_rfl
theorem sz68:szB Tryz.prog 68 2=true:=by kernel_rfl
theorem sz75:szB Tryz.prog 75 1=true:=by kernel_rfl
theorem sz90:szB Tryz.prog 90 2=true:=by kernel_rfl
theorem sz93:szB Tryz.prog 93 1=true:=by kernel_rfl
theorem sz111:szB Tryz.prog 111 1=true:=by kernel_rfl
theorem ze3:zeroB Tryz.prog 3=some [.int .i64 0]:=by kernel_rfl
theorem ze4:zeroB Tryz.prog 4=some [.bool false]:=by kernel_rfl
theorem ze23:zeroB Tryz.prog 23=some [.slice none 0 0]:=by kernel_rfl
theorem ze25:zeroB Tryz.prog 25=some [.slice none 0 0,.slice none 0 0,.slice none 0 0]:=by kernel_rfl
theorem ze36:zeroB Tryz.prog 36=some (List.replicate 12 (.bool false)):=by kernel_rfl
theorem ze38:zeroB Tryz.prog 38=some [.slice none 0 0,.slice none 0 0,.slice none 0 0,.slice none 0 0,.slice none 0 0,.slice none 0 0,.slice none 0 0,.slice none 0 0,.slice none 0 0,.slice none 0 0,.slice none 0 0,.slice none 0 0,.slice none 0 0,.bool false,.bool false,.bool false,.bool false,.bool false,.bool false,.bool false,.bool false,.bool false,.bool false,.bool false,.bool false,.slice none 0 0]:=by kernel_rfl
theorem ze40:zeroB Tryz.prog 40=some [.int .i64 0,.int .i64 0,.int .i64 0]:=by kernel_rfl
theorem ze47:zeroB Tryz.prog 47=some [.slice none 0 0,.map none,.map none,.slice none 0 0]:=by kernel_rfl
theorem ze65:zeroB Tryz.prog 65=some [.int .i64 0,.slice none 0 0,.slice none 0 0]:=by kernel_rfl
theorem ze68:zeroB Tryz.prog 68=some [.int .i64 0,.int .i64 0]:=by kernel_rfl
theorem ze75:zeroB Tryz.prog 75=some [.pointer none]:=by kernel_rfl
theorem ze90:zeroB Tryz.prog 90=some [.int .i64 0,.int .i64 0]:=by kernel_rfl
theorem ze93:zeroB Tryz.prog 93=some [.slice none 0 0]:=by kernel_rfl
theorem ze109:zeroB Tryz.prog 109=some [.bool false,.bool false,.bool false,.bool false,.bool false,.bool false,.bool false,.bool false,.bool false,.bool false,.bool false,.bool false,.bool false,.bool false,.bool false,.bool false,.bool false,.bool false,.bool false,.bool false,.bool false,.bool false,.bool false,.bool false,.bool false,.bool false,.bool false,.bool false,.bool false,.bool false,.bool false,.bool false,.bool false,.bool false,.bool false,.bool false,.bool false,.bool false,.bool false,.bool false,.bool false,.bool false,.bool false,.bool false,.bool false,.bool false,.bool false,.bool false,.bool false,.bool false,.bool false,.bool false,.bool false,.bool false,.bool false,.bool false,.bool false,.bool false,.bool false,.bool false,.bool false,.bool false,.bool false,.bool false,.bool false,.bool false,.bool false,.bool false,.bool false,.bool false,.bool false,.bool false,.bool false,.bool false,.bool false,.bool false,.bool false,.bool false,.bool false,.bool false,.bool false,.bool false,.bool false,.bool false,.bool false,.bool false,.bool false,.bool false,.bool false,.bool false,.bool false,.bool false,.bool false,.bool false,.bool false,.bool false,.bool false,.bool false,.bool false,.bool false,.bool false,.bool false,.bool false,.bool false,.bool false,.bool false,.bool false,.bool false,.bool false,.bool false,.bool false,.bool false,.bool false,.bool false,.bool false,.bool false,.bool false,.bool false,.bool false,.bool false,.bool false,.bool false,.bool false,.bool false,.bool false,.bool false,.bool false,.bool false,.bool false,.bool false,.bool false,.bool false,.bool false,.bool false,.bool false,.bool false,.bool false,.bool false,.bool false,.bool false,.bool false,.bool false,.bool false,.bool false]:=by kernel_rfl
theorem ze120:zeroB Tryz.prog 120=some (List.replicate 12 (.int .i64 0)):=by kernel_rfl
theorem plain_TOp (l:List TOp):Plain (l.map TOp.row):=by
 intro r hr u hu
 obtain ⟨x,_,rfl⟩:=List.mem_map.1 hr
 simp only [TOp.row,List.mem_cons,List.not_mem_nil,or_false] at hu
 rcases hu with rfl | rfl | rfl <;> rfl
theorem plain_TLock (l:List TL):Plain (l.map TL.row):=by
 intro r hr u hu
 obtain ⟨x,_,rfl⟩:=List.mem_map.1 hr
 simp only [TL.row,List.mem_cons,List.not_mem_nil,or_false] at hu
 rcases hu with rfl | rfl <;> rfl
theorem plain_TEdge (l:List TE):Plain (l.map TE.row):=by
 intro r hr u hu
 obtain ⟨x,_,rfl⟩:=List.mem_map.1 hr
 simp only [TE.row,List.mem_cons,List.not_mem_nil,or_false] at hu
 rcases hu with rfl | rfl <;> rfl
theorem plz_TLockItem:PlZ TI.rowv TI.sds:=by
 intro x v h u hu
 simp only [TI.rowv,List.mem_cons,List.not_mem_nil,or_false] at hu
 rcases hu with rfl | rfl | rfl
 ·rfl
 ·exact h ⟨gv v 0,68,2,x.Held.map TL.row⟩ (by simp [TI.sds])
 exact h ⟨gv v 1,68,2,x.Queue.map TL.row⟩ (by simp [TI.sds])
theorem plz_TPlayed:PlZ TPlayed.rowv TPlayed.sds:=by
 intro x v h u hu
 simp only [TPlayed.rowv,List.mem_cons,List.not_mem_nil,or_false] at hu
 rcases hu with rfl | rfl | rfl
 ·exact h ⟨gv v 0,40,3,x.Run.map TOp.row⟩ (by simp [TPlayed.sds])
 ·exact h ⟨gv v 1,3,1,x.Dead.map I⟩ (by simp [TPlayed.sds])
 exact h ⟨gv v 2,3,1,x.Late.map I⟩ (by simp [TPlayed.sds])
theorem eg40:Tryz.prog.eqGuardType Tryz.prog.depth 40=false:=by kernel_rfl
theorem sh40 (x:TOp):shB Tryz.prog 5 40 x.row=true:=by kernel_rfl
theorem inj40 (x y:TOp) (h:x.row=y.row):x=y:=by
 cases x;cases y
 simpa [TOp.row,st_inj] using h
set_option maxRecDepth 100000 in
set_option maxHeartbeats 8000000 in
theorem W8 (a0:(List TOp)) (u0:Value) (w:World) (r:Int) (h:M8 a0=some r) (hA0:At w u0 3 (a0.map TOp.row)):Does Tryz.prog 8 [u0] w fun u m=>u=.int .i64 r∧m=[]:=by
 rw [M8] at h
 refine body (n:=55) Tryz.func8 rfl rfl rfl (Cls.refl w) (sr (L.r 1 rfl (ln (W.seqJ (fun gs D=>gs=[(0,u0)]∧D=Cls w [] []∧M8K1 a0=some r) ?_ ?_))))
 ·refine sr (L.r 1 rfl (L.y rfl (Y.lenM (g:=TOp.row) (l:=a0) Tryz.underlying22 rfl (fun w' hw=>hA0.cls0 hw)) (L.ite h rfl (Y.gtr rfl rfl) (fun c20 h=>?_) (fun c20 h=>?_))))
  ·refine ln (W.condT rfl (sr (L.r 1 rfl (ln (W.ret (E.KSR (E.ret1 rfl rfl (fun w1 hw=>?_))))))))
   cases h
   exact ⟨_,_,rfl,⟨rfl,rfl⟩,hw⟩
  exact ln (W.condF rfl (W.skip (E.jJ ⟨rfl,rfl,h⟩ hI)))
 rintro _ _ ⟨rfl,rfl,h⟩
 rw [M8K1] at h
 refine sr (L.alloc rfl ze36 ?_)
 intro b1
 refine L.to (D:=Cls w [] [.obj b1 (((List.replicate 12 (false:Bool)).map B).flatten) 36]) (fun _ hw=>by first | exact hw | simpa [I,B,SR] using hw) (ln (W.seqJ (fun gs D=>gs=[]∧D=Cls w [] []∧M8K2=some r) ?_ ?_))
 ·refine sr (L.r 1 rfl (L.y rfl (Y.lenM (g:=TOp.row) (l:=a0) Tryz.underlying22 rfl (fun w' hw=>hA0.cls0 hw)) (L.r 1 rfl (ln (W.block (W.loopJ (fun m gs D=>∃ gx1 gl2,gs=[(3,pt b1 0),(9,u0),(10,.int .i64 (a0.length:Int)),(11,.int .i64 gx1)]∧D=Cls w [] [.obj b1 ((gl2.map B).flatten) 36]∧M8L1 a0 m gx1 gl2=some r) ⟨0,(List.replicate 12 (false:Bool)),rfl,rfl,h⟩ ⟨rfl,rfl,rfl,rfl,trivial⟩ hI ?_))))))
  rintro m _ _ ⟨gx1,gl2,rfl,rfl,h⟩
  rcases m with _ | m
  ·rw [M8L1] at h;cases h
  rw [M8L1] at h
  generalize hg1:M8L1 a0 m=go1 at h
  rw [M8L1B] at h
  refine sr (L.ite h rfl (Y.lss rfl rfl) (fun c2 h=>?_) (fun c2 h=>?_))
  ·refine ln (W.seq (W.condT rfl (W.skip (E.thenN (W.seqJ (fun gs D=>∃ gl3,gs=[(3,pt b1 0),(9,u0),(10,.int .i64 (a0.length:Int)),(11,.int .i64 gx1)]∧D=Cls w [] [.obj b1 ((gl3.map B).flatten) 36]∧M8K3 gx1 go1 gl3=some r) ?_ ?_)))))
   ·refine W.block (sr (L.m (V:=fun _=>el u0 (gx1.toNat*3)) h rfl (Y.indexM (g:=TOp.row) (l:=a0) Tryz.underlying22 sz40 rfl rfl (fun w' hw=>hA0.cls0 hw)) (fun x4 ex4 h=>(L.y rfl (Y.loadEN (r:=[.int .i64 x4.Tx,.int .i64 x4.Kind,.int .i64 x4.Item]) ag40 sz40 rfl (fun w' hw=>hA0.cls0 hw) (idx_map ex4) rfl) (L.alloc rfl ze40 ?_)))))
    intro b5
    refine L.store (i:=0) (vs:=[.int .i64 x4.Tx,.int .i64 x4.Kind,.int .i64 x4.Item]) sz40 rfl rfl rfl rfl (by simp [Value.oneCell',Value.cells,st,pt,el]) rfl nb (ln (W.seqJ (fun gs D=>gs=[(3,pt b1 0),(5,pt b5 0),(9,u0),(10,.int .i64 (a0.length:Int)),(11,.int .i64 gx1)]∧D=Cls w [] [.obj b5 [.int .i64 x4.Tx,.int .i64 x4.Kind,.int .i64 x4.Item] 40,.obj b1 ((gl2.map B).flatten) 36]∧M8K4 x4 gl2 gx1 go1=some r) ?_ ?_))
    ·refine sr (L.cutJ 8 (fun gs D=>∃ gb5,gs=[(3,pt b1 0),(5,pt b5 0),(9,u0),(10,.int .i64 (a0.length:Int)),(11,.int .i64 gx1),(22,.bool gb5)]∧D=Cls w [] [.obj b5 [.int .i64 x4.Tx,.int .i64 x4.Kind,.int .i64 x4.Item] 40,.obj b1 ((gl2.map B).flatten) 36]∧M8K7 x4 gl2 gx1 go1 gb5=some r) ?_ ?_)
     ·refine L.y rfl (Y.fieldP fd40_0 rfl) (L.y rfl (Y.loadP (i:=0) ag3 rfl rfl rfl) (L.ite h rfl (Y.lss rfl rfl) (fun c18 h=>?_) (fun c18 h=>?_)))
      ·exact L.r 5 rfl (L.nil (E.jJ ⟨true,rfl,rfl,h⟩ hI))
      refine L.r 1 rfl (L.take rfl (L.y rfl (Y.fieldP fd40_0 rfl) (L.take rfl (L.y rfl (Y.loadP (i:=0) ag3 rfl rfl rfl) (L.take rfl (L.ite h rfl (Y.geq rfl rfl) (fun c19 h=>?_) (fun c19 h=>?_)))))))
      ·exact L.r 1 rfl (L.nil (E.jJ ⟨true,rfl,rfl,h⟩ hI))
      exact L.r 1 rfl (L.nil (E.jJ ⟨false,rfl,rfl,h⟩ hI))
     rintro _ _ ⟨gb5,rfl,rfl,h⟩
     rw [M8K7] at h
     rcases gb5 with _ | _
     ·replace h:=iteF h
      refine L.r 1 rfl (L.take rfl (L.y rfl (Y.fieldP fd40_2 rfl) (L.take rfl (L.y rfl (Y.loadP (i:=0) ag3 rfl rfl rfl) (L.take rfl (L.ite h rfl (Y.lss rfl rfl) (fun c16 h=>?_) (fun c16 h=>?_)))))))
      ·refine L.r 6 rfl (ln (W.condT rfl (sr (L.r 1 rfl (ln (W.ret (E.KSR (E.blockR (E.KSR (E.KLR ?_))))))))))
       refine E.blockR (E.KSR (E.ret1 rfl rfl (fun w1 hw=>?_)))
       cases h
       exact ⟨_,_,rfl,⟨rfl,rfl⟩,hw.s []⟩
      refine L.r 2 rfl (L.take rfl (L.y rfl (Y.fieldP fd40_2 rfl) (L.take rfl (L.y rfl (Y.loadP (i:=0) ag3 rfl rfl rfl) (L.take rfl (L.ite h rfl (Y.geq rfl rfl) (fun c17 h=>?_) (fun c17 h=>?_)))))))
      ·refine L.r 1 rfl (ln (W.condT rfl (sr (L.r 1 rfl (ln (W.ret (E.KSR (E.blockR (E.KSR (E.KLR ?_))))))))))
       refine E.blockR (E.KSR (E.ret1 rfl rfl (fun w1 hw=>?_)))
       cases h
       exact ⟨_,_,rfl,⟨rfl,rfl⟩,hw.s []⟩
      exact L.r 1 rfl (ln (W.condF rfl (W.skip (E.jJ ⟨rfl,rfl,h⟩ hI))))
     replace h:=iteT h
     refine L.r 10 rfl (ln (W.condT rfl (sr (L.r 1 rfl (ln (W.ret (E.KSR (E.blockR (E.KSR (E.KLR ?_))))))))))
     refine E.blockR (E.KSR (E.ret1 rfl rfl (fun w1 hw=>?_)))
     cases h
     exact ⟨_,_,rfl,⟨rfl,rfl⟩,hw.s []⟩
    rintro _ _ ⟨rfl,rfl,h⟩
    rw [M8K4] at h
    refine W.seqJ (fun gs D=>gs=[(3,pt b1 0),(5,pt b5 0),(9,u0),(10,.int .i64 (a0.length:Int)),(11,.int .i64 gx1)]∧D=Cls w [] [.obj b5 [.int .i64 x4.Tx,.int .i64 x4.Kind,.int .i64 x4.Item] 40,.obj b1 ((gl2.map B).flatten) 36]∧M8K5 gl2 x4 gx1 go1=some r) ?_ ?_
    ·refine sr (L.y rfl (Y.fieldP fd40_1 rfl) (L.y rfl (Y.loadP (i:=0) ag3 rfl rfl rfl) (ln (W.block (W.seqJ (fun gs D=>∃ gb4,gs=[(3,pt b1 0),(5,pt b5 0),(9,u0),(10,.int .i64 (a0.length:Int)),(11,.int .i64 gx1),(34,.int .i64 x4.Kind),(35,.bool gb4)]∧D=Cls w [] [.obj b5 [.int .i64 x4.Tx,.int .i64 x4.Kind,.int .i64 x4.Item] 40,.obj b1 ((gl2.map B).flatten) 36]∧M8K6 gl2 x4 gx1 go1 gb4=some r) ?_ ?_)))))
     ·refine sr (L.ite h rfl (Y.eql rfl rfl) (fun c14 h=>?_) (fun c14 h=>?_))
      ·exact L.r 1 rfl (ln (W.condT rfl (W.skip (E.jJ ⟨true,rfl,rfl,h⟩ hI))))
      refine L.r 1 rfl (ln (W.condF rfl (W.region (L.ite h rfl (Y.eql rfl rfl) (fun c15 h=>?_) (fun c15 h=>?_)))))
      ·exact L.r 1 rfl (L.nil (E.jJ ⟨true,rfl,rfl,h⟩ hI))
      exact L.r 1 rfl (L.nil (E.jJ ⟨false,rfl,rfl,h⟩ hI))
     rintro _ _ ⟨gb4,rfl,rfl,h⟩
     rw [M8K6] at h
     rcases gb4 with _ | _
     ·replace h:=iteF h
      refine W.condF rfl (W.seq (sr (L.ite h rfl (Y.eql rfl rfl) (fun c10 h=>?_) (fun c10 h=>?_))))
      ·refine L.r 1 rfl (ln (W.condT rfl (W.skip (E.thenN (W.condT rfl (sr (L.y rfl (Y.fieldP fd40_2 rfl) (L.y rfl (Y.loadP (i:=0) ag3 rfl rfl rfl) (L.ite h rfl (Y.neq rfl rfl) (fun c11 h=>?_) (fun c11 h=>?_))))))))))
       ·refine ln (W.condT rfl (sr (L.r 1 rfl (ln (W.ret (E.blockR (E.KSR (E.blockR (E.KSR (E.KLR ?_))))))))))
        refine E.blockR (E.KSR (E.ret1 rfl rfl (fun w1 hw=>?_)))
        cases h
        exact ⟨_,_,rfl,⟨rfl,rfl⟩,hw.s []⟩
       exact ln (W.condF rfl (W.skip (E.blockN (E.jJ ⟨rfl,rfl,h⟩ hI))))
      refine L.r 1 rfl (ln (W.condF rfl (W.region (L.ite h rfl (Y.eql rfl rfl) (fun c12 h=>?_) (fun c12 h=>?_)))))
      ·refine L.r 1 rfl (ln (W.condT rfl (sr (L.y rfl (Y.fieldP fd40_2 rfl) (L.y rfl (Y.loadP (i:=0) ag3 rfl rfl rfl) (L.ite h rfl (Y.neq rfl rfl) (fun c13 h=>?_) (fun c13 h=>?_)))))))
       ·refine ln (W.condT rfl (sr (L.r 1 rfl (ln (W.ret (E.blockR (E.KSR (E.blockR (E.KSR (E.KLR ?_))))))))))
        refine E.blockR (E.KSR (E.ret1 rfl rfl (fun w1 hw=>?_)))
        cases h
        exact ⟨_,_,rfl,⟨rfl,rfl⟩,hw.s []⟩
       exact ln (W.condF rfl (W.skip (E.blockN (E.jJ ⟨rfl,rfl,h⟩ hI))))
      refine L.r 1 rfl (ln (W.condF rfl (sr (L.r 1 rfl (ln (W.ret (E.blockR (E.KSR (E.blockR (E.KSR ?_))))))))))
      refine E.KLR (E.blockR (E.KSR (E.ret1 rfl rfl (fun w1 hw=>?_))))
      cases h
      exact ⟨_,_,rfl,⟨rfl,rfl⟩,hw.s []⟩
     replace h:=iteT h
     exact W.condT rfl (W.skip (E.blockN (E.jJ ⟨rfl,rfl,h⟩ hI)))
    rintro _ _ ⟨rfl,rfl,h⟩
    rw [M8K5] at h
    refine W.seq (sr (L.y rfl (Y.fieldP fd40_0 rfl) (L.y rfl (Y.loadP (i:=0) ag3 rfl rfl rfl) (L.m (V:=fun _=>pt b1 (0+x4.Tx.toNat*1)) h rfl (Y.indexAM (l:=gl2) Tryz.underlying36 sz4 rfl rfl) (fun x6 ex6 h=>(L.iteB h rfl (Y.loadAr (q:=1) (row:=B) (j:=0) (p:=.bool x6) ag4 rfl rfl rfl (fun _=>rfl) (idxA_idx ex6) rfl) (fun c7 h=>?_) (fun c7 h=>?_)))))))
    ·refine ln (W.condT rfl (sr (L.r 1 rfl (ln (W.ret (E.thenR (E.blockR (E.KSR (E.KLR (E.blockR ?_))))))))))
     refine E.KSR (E.ret1 rfl rfl (fun w1 hw=>?_))
     cases h
     exact ⟨_,_,rfl,⟨rfl,rfl⟩,hw.s []⟩
    refine ln (W.condF rfl (W.skip (E.thenN (W.region (L.y rfl (Y.fieldP fd40_0 rfl) (L.y rfl (Y.loadP (i:=0) ag3 rfl rfl rfl) (L.y rfl (Y.fieldP fd40_1 rfl) (L.y rfl (Y.loadP (i:=0) ag3 rfl rfl rfl) (L.y rfl (Y.geq rfl rfl) (L.m (V:=fun _=>pt b1 (0+x4.Tx.toNat*1)) h rfl (Y.indexAM (l:=gl2) Tryz.underlying36 sz4 rfl rfl) (fun x8 ex8 h=>(L.storeArM (q:=1) (row:=B) (vs:=[.bool (decide (3≤x4.Kind))]) (j:=0) (u1:=decide (3≤x4.Kind)) h sz4 rfl rfl rfl rfl rfl (all1 rfl all0) rfl (fun _=>rfl) (idxA_idx ex8) rfl rfl ?_))))))))))))
    intro l9 el9 h
    exact L.nil (E.blockN (E.jJ ⟨l9,rfl,rfl,h⟩ (sI [1])))
   rintro _ _ ⟨gl3,rfl,rfl,h⟩
   rw [M8K3] at h
   exact W.region (L.m (V:=fun x3=>.int .i64 x3) h rfl (Y.addM rfl rfl) (fun x3 ex3 h=>(L.r 1 rfl (L.nil (E.aJ ⟨x3,gl3,rfl,rfl,by rw [hg1];exact h⟩ hI)))))
  exact ln (W.seq (W.condF rfl (W.exit (E.thenX (E.KLX (E.blockX (E.joinJ ⟨rfl,rfl,h⟩ trivial (sI []))))))))
 rintro _ _ ⟨rfl,rfl,h⟩
 rw [M8K2] at h
 refine sr (L.r 1 rfl (ln (W.ret (E.ret1 rfl rfl (fun w1 hw=>?_)))))
 cases h
 exact ⟨_,_,rfl,⟨rfl,rfl⟩,hw⟩
set_option maxRecDepth 100000 in
set_option maxHeartbeats 8000000 in
theorem W25 (a0:Int) (w:World) (r:Bool) (h:M25 a0=some r):Does Tryz.prog 25 [.int .i64 a0] w fun u m=>u=.bool r∧m=[]:=by
 rw [M25] at h
 refine body (n:=9) Tryz.func25 rfl rfl rfl (Cls.refl w) (sr (L.r 1 rfl (nsr (L.r 1 rfl (L.ite h rfl (Y.geq rfl rfl) (fun c1 h=>?_) (fun c1 h=>?_))))))
 ·refine L.r 2 rfl (L.take rfl (L.y rfl (Y.leq rfl rfl) (L.r 2 rfl (ln (W.ret (E.ret1 rfl rfl (fun w1 hw=>?_)))))))
  cases h
  exact ⟨_,_,rfl,⟨rfl,rfl⟩,hw⟩
 refine L.r 5 rfl (ln (W.ret (E.ret1 rfl rfl (fun w1 hw=>?_))))
 cases h
 exact ⟨_,_,rfl,⟨rfl,rfl⟩,hw⟩
set_option maxRecDepth 100000 in
set_option maxHeartbeats 8000000 in
theorem W59 (a0:Int) (w:World) (r:Int) (h:M59 a0=some r):Does Tryz.prog 59 [.int .i64 a0] w fun u m=>u=.int .i64 r∧m=[]:=by
 rw [M59] at h
 refine body (n:=12) Tryz.func59 rfl rfl rfl (Cls.refl w) (sr (L.r 1 rfl (ln (W.seq (sr (L.r 1 rfl (ln (W.block (W.seq ?_)))))))))
 refine W.region (L.ite h rfl (Y.eql rfl rfl) (fun c1 h=>?_) (fun c1 h=>?_))
 ·refine L.r 1 rfl (ln (W.condT rfl (sr (L.r 1 rfl (ln (W.ret (E.blockR (E.thenR (E.ret1 rfl rfl (fun w1 hw=>?_))))))))))
  cases h
  exact ⟨_,_,rfl,⟨rfl,rfl⟩,hw⟩
 refine L.r 1 rfl (ln (W.condF rfl (sr (L.ite h rfl (Y.eql rfl rfl) (fun c2 h=>?_) (fun c2 h=>?_)))))
 ·refine L.r 1 rfl (ln (W.condT rfl (sr (L.r 1 rfl (ln (W.ret (E.blockR (E.thenR (E.ret1 rfl rfl (fun w1 hw=>?_))))))))))
  cases h
  exact ⟨_,_,rfl,⟨rfl,rfl⟩,hw⟩
 refine L.r 1 rfl (ln (W.condF rfl (sr (L.ite h rfl (Y.eql rfl rfl) (fun c3 h=>?_) (fun c3 h=>?_)))))
 ·refine L.r 1 rfl (ln (W.condT rfl (sr (L.r 1 rfl (ln (W.ret (E.blockR (E.thenR (E.ret1 rfl rfl (fun w1 hw=>?_))))))))))
  cases h
  exact ⟨_,_,rfl,⟨rfl,rfl⟩,hw⟩
 refine L.r 1 rfl (ln (W.condF rfl (sr (L.ite h rfl (Y.eql rfl rfl) (fun c4 h=>?_) (fun c4 h=>?_)))))
 ·refine L.r 1 rfl (ln (W.condT rfl (sr (L.r 1 rfl (ln (W.ret (E.blockR (E.thenR (E.ret1 rfl rfl (fun w1 hw=>?_))))))))))
  cases h
  exact ⟨_,_,rfl,⟨rfl,rfl⟩,hw⟩
 refine L.r 1 rfl (ln (W.condF rfl (W.skip (E.blockN (E.thenN (sr (L.r 1 rfl (ln (W.ret (E.ret1 rfl rfl (fun w1 hw=>?_)))))))))))
 cases h
 exact ⟨_,_,rfl,⟨rfl,rfl⟩,hw⟩
set_option maxRecDepth 100000 in
set_option maxHeartbeats 8000000 in
theorem W75 (a0:Int) (a1:Int) (w:World) (r:(Int×Int)) (h:M75 a0 a1=some r):Does Tryz.prog 75 [.int .i64 a0,.int .i64 a1] w fun u m=>u=.tuple #[.int .i64 r.1,.int .i64 r.2]∧m=[]:=by
 rw [M75] at h
 refine body (n:=29) Tryz.func75 rfl rfl rfl (Cls.refl w) (sr (L.r 2 rfl (ln (W.seqJ (fun gs D=>gs=[(0,.int .i64 a0),(1,.int .i64 a1)]∧D=Cls w [] []∧M75K1 a0 a1=some r) ?_ ?_))))
 ·refine sr (L.r 1 rfl ?_)
  obtain ⟨b3,e4,h⟩:=bind1S h
  refine L.y rfl (Y.does en25 rfl (fun w' hw=>(W25 a0 w' _ e4).mono (fun _ _ h=>h.1))) ?_
  rcases b3 with _ | _
  ·replace h:=iteF h
   refine L.y rfl (Y.not rfl) (L.r 5 rfl (ln (W.condT rfl (sr (L.r 2 rfl (ln (W.ret (E.KSR (E.ret2 rfl rfl rfl (fun w1 hw=>?_))))))))))
   cases h
   exact ⟨_,_,rfl,⟨rfl,rfl⟩,hw⟩
  replace h:=iteT h
  refine L.y rfl (Y.not rfl) (L.r 2 rfl (L.take rfl ?_))
  obtain ⟨b5,e6,h⟩:=bind1S h
  refine L.y rfl (Y.does en25 rfl (fun w' hw=>(W25 a1 w' _ e6).mono (fun _ _ h=>h.1))) ?_
  rcases b5 with _ | _
  ·replace h:=iteF h
   refine L.take rfl (L.y rfl (Y.not rfl) (L.r 1 rfl (ln (W.condT rfl (sr (L.r 2 rfl (ln (W.ret (E.KSR (E.ret2 rfl rfl rfl (fun w1 hw=>?_)))))))))))
   cases h
   exact ⟨_,_,rfl,⟨rfl,rfl⟩,hw⟩
  replace h:=iteT h
  exact L.take rfl (L.y rfl (Y.not rfl) (L.r 1 rfl (ln (W.condF rfl (W.skip (E.jJ ⟨rfl,rfl,h⟩ hI))))))
 rintro _ _ ⟨rfl,rfl,h⟩
 rw [M75K1] at h
 refine sr (L.r 2 rfl (L.y rfl (Y.min2 rfl rfl) (L.r 2 rfl (L.y rfl (Y.max2 rfl rfl) (L.r 2 rfl (ln (W.seq (sr (L.r 1 rfl (L.ite h rfl (Y.eql rfl rfl) (fun c1 h=>?_) (fun c1 h=>?_)))))))))))
 ·refine L.r 2 rfl (L.take rfl (L.ite h rfl (Y.eql rfl rfl) (fun c2 h=>?_) (fun c2 h=>?_)))
  ·refine L.r 1 rfl (ln (W.condT rfl (sr (L.r 2 rfl (ln (W.ret (E.thenR (E.ret2 rfl rfl rfl (fun w1 hw=>?_)))))))))
   cases h
   exact ⟨_,_,rfl,⟨rfl,rfl⟩,hw⟩
  refine L.r 1 rfl (ln (W.condF rfl (W.skip (E.thenN (sr (L.r 3 rfl (ln (W.ret (E.ret2 rfl rfl rfl (fun w1 hw=>?_))))))))))
  cases h
  exact ⟨_,_,rfl,⟨rfl,rfl⟩,hw⟩
 refine L.r 4 rfl (ln (W.condF rfl (W.skip (E.thenN (sr (L.r 3 rfl (ln (W.ret (E.ret2 rfl rfl rfl (fun w1 hw=>?_))))))))))
 cases h
 exact ⟨_,_,rfl,⟨rfl,rfl⟩,hw⟩
set_option maxRecDepth 100000 in
set_option maxHeartbeats 8000000 in
theorem W57 (a0:TI) (a1:TL) (u0_0:Value) (u0_1:Value) (w:World) (r:Int) (h:M57 a0 a1=some r) (hA0_0:At w u0_0 2 (a0.Held.map TL.row)) (hA0_1:At w u0_1 2 (a0.Queue.map TL.row)):Does Tryz.prog 57 [.agg #[.int .i64 a0.Item,u0_0,u0_1],.agg #[.int .i64 a1.Tx,.int .i64 a1.Mode]] w fun u m=>u=.int .i64 r∧m=[]:=by
 rw [M57] at h
 refine body (n:=33) Tryz.func57 rfl rfl rfl (Cls.refl w) (sr (L.box rfl rfl ?_))
 intro b1
 refine L.box rfl rfl ?_
 intro b2
 refine L.r 1 rfl (ln (W.seqJ (fun gs D=>gs=[(3,pt b2 0)]∧D=Cls w [] [.obj b2 [.int .i64 a1.Tx,.int .i64 a1.Mode] 68]∧M57K1 a1=some r) ?_ ?_))
 ·refine sr (L.y rfl (Y.fieldP fd65_1 rfl) (L.y rfl (Y.loadP (i:=1) ag63 rfl rfl rfl) (L.y rfl (Y.lenM (g:=TL.row) (l:=a0.Held) Tryz.underlying63 rfl (fun w' hw=>hA0_0.cls0 hw)) (L.r 1 rfl (ln (W.block (W.loopJ (fun m gs D=>∃ gx1,gs=[(3,pt b2 0),(10,u0_0),(11,.int .i64 (a0.Held.length:Int)),(12,.int .i64 gx1)]∧D=Cls w [] [.obj b2 [.int .i64 a1.Tx,.int .i64 a1.Mode] 68]∧M57L1 a0 a1 m gx1=some r) ⟨0,rfl,rfl,h⟩ ⟨rfl,rfl,rfl,rfl,trivial⟩ (sI [0]) ?_)))))))
  rintro m _ _ ⟨gx1,rfl,rfl,h⟩
  rcases m with _ | m
  ·rw [M57L1] at h;cases h
  rw [M57L1] at h
  generalize hg1:M57L1 a0 a1 m=go1 at h
  rw [M57L1B] at h
  refine sr (L.ite h rfl (Y.lss rfl rfl) (fun c3 h=>?_) (fun c3 h=>?_))
  ·refine ln (W.seq (W.condT rfl (W.skip (E.thenN (W.seq (W.block (sr (L.m (V:=fun _=>el u0_0 (gx1.toNat*2)) h rfl (Y.indexM (g:=TL.row) (l:=a0.Held) Tryz.underlying63 sz68 rfl rfl (fun w' hw=>hA0_0.cls0 hw)) (fun x4 ex4 h=>(L.y rfl (Y.loadEN (r:=[.int .i64 x4.Tx,.int .i64 x4.Mode]) ag68 sz68 rfl (fun w' hw=>hA0_0.cls0 hw) (idx_map ex4) rfl) (L.alloc rfl ze68 ?_)))))))))))
   intro b5
   refine L.store (i:=0) (vs:=[.int .i64 x4.Tx,.int .i64 x4.Mode]) sz68 rfl rfl rfl rfl (by simp [Value.oneCell',Value.cells,st,pt,el]) rfl nb (nsr (L.y rfl (Y.fieldP fd68_0 rfl) (L.y rfl (Y.loadP (i:=0) ag3 rfl rfl rfl) (L.y rfl (Y.fieldP fd68_0 rfl) (L.y rfl (Y.loadP (i:=1) ag3 rfl rfl rfl) (L.ite h rfl (Y.eql rfl rfl) (fun c6 h=>?_) (fun c6 h=>?_)))))))
   ·refine ln (W.condT rfl (sr (L.y rfl (Y.fieldP fd68_1 rfl) (L.y rfl (Y.loadP (i:=0) ag3 rfl rfl rfl) (L.y rfl (Y.fieldP fd68_1 rfl) (L.y rfl (Y.loadP (i:=1) ag3 rfl rfl rfl) ?_))))))
    obtain ⟨x7,x8,e9,h⟩:=bind2S h
    refine L.y rfl (Y.does en75 rfl (fun w' hw=>(W75 x4.Mode a1.Mode w' _ e9).mono (fun _ _ h=>h.1))) (L.r 5 rfl (nsr (L.r 2 rfl (ln (W.ret (E.blockR (E.thenR (E.KLR (E.blockR ?_)))))))))
    refine E.KSR (E.ret1 rfl rfl (fun w1 hw=>?_))
    cases h
    exact ⟨_,_,rfl,⟨rfl,rfl⟩,hw.s []⟩
   exact ln (W.condF rfl (W.skip (E.blockN (E.thenN (W.region (L.m (V:=fun x10=>.int .i64 x10) h rfl (Y.addM rfl rfl) (fun x10 ex10 h=>(L.r 1 rfl (L.nil (E.aJ ⟨x10,rfl,rfl,by rw [hg1];exact h⟩ (sI [1])))))))))))
  exact ln (W.seq (W.condF rfl (W.exit (E.thenX (E.KLX (E.blockX (E.jJ ⟨rfl,rfl,h⟩ hI)))))))
 rintro _ _ ⟨rfl,rfl,h⟩
 rw [M57K1] at h
 refine sr (L.y rfl (Y.fieldP fd68_1 rfl) (L.y rfl (Y.loadP (i:=0) ag3 rfl rfl rfl) (L.r 1 rfl (ln (W.ret (E.ret1 rfl rfl (fun w1 hw=>?_)))))))
 cases h
 exact ⟨_,_,rfl,⟨rfl,rfl⟩,hw.s []⟩
set_option maxRecDepth 100000 in
set_option maxHeartbeats 8000000 in
theorem W33 (a0:TI) (a1:TL) (u0_0:Value) (u0_1:Value) (w:World) (r:Bool) (h:M33 a0 a1=some r) (hA0_0:At w u0_0 2 (a0.Held.map TL.row)) (hA0_1:At w u0_1 2 (a0.Queue.map TL.row)):Does Tryz.prog 33 [.agg #[.int .i64 a0.Item,u0_0,u0_1],.agg #[.int .i64 a1.Tx,.int .i64 a1.Mode]] w fun u m=>u=.bool r∧m=[]:=by
 rw [M33] at h
 refine body (n:=14) Tryz.func33 rfl rfl rfl (Cls.refl w) (sr (L.box rfl rfl ?_))
 intro b1
 refine L.box rfl rfl ?_
 intro b2
 refine L.r 1 rfl (nsr (L.y rfl (Y.loadPW (i:=1) ag65 sz65 rfl rfl rfl) (L.y rfl (Y.loadPW (i:=0) ag68 sz68 rfl rfl rfl) ?_)))
 obtain ⟨x3,e4,h⟩:=bind1S h
 refine L.y rfl (Y.does en57 rfl (fun w' hw=>(W57 a0 a1 u0_0 u0_1 w' _ e4 (hA0_0.cls0 hw) (hA0_1.cls0 hw)).mono (fun _ _ h=>h.1))) (L.alloc rfl ze3 ?_)
 intro b5
 refine L.store (i:=0) (vs:=[.int .i64 x3]) sz3 rfl rfl rfl rfl (by simp [Value.oneCell',Value.cells,st,pt,el]) rfl nb (nsr (L.y rfl (Y.fieldP fd65_1 rfl) (L.y rfl (Y.loadP (i:=2) ag63 rfl rfl rfl) (L.y rfl (Y.func rfl) (L.callJ (fun v D=>∃ gb1,v=.bool gb1∧D=Cls w [] []∧M33K1 gb1=some r) rfl en26 rfl Tryz.func26 rfl rfl rfl ?_ ?_)))))
 ·refine sr (L.r 1 rfl (nsr (L.r 2 rfl (L.callJ (fun v D=>∃ gx2,v=.int .i64 gx2∧D=Cls w [] []∧M33K2 gx2=some r) rfl en47 rfl Tryz.func47 rfl rfl rfl ?_ ?_))))
  ·refine sr (L.r 1 rfl (ln (W.seqJ (fun gs D=>gs=[]∧D=Cls w [] []∧M33K3=some r) ?_ ?_)))
   ·refine sr (L.r 1 rfl (L.y rfl (Y.lenM (g:=TL.row) (l:=a0.Held) Tryz.underlying63 rfl (fun w' hw=>hA0_0.cls0 hw)) (L.r 1 rfl (ln (W.block (W.loopJ (fun m gs D=>∃ gx3,gs=[(0,u0_0),(1,.func (.func 58) #[] #[pt b2 0,pt b5 0]),(7,.int .i64 (a0.Held.length:Int)),(8,.int .i64 gx3)]∧D=Cls w [] [.obj b5 [.int .i64 x3] 3,.obj b2 [.int .i64 a1.Tx,.int .i64 a1.Mode] 68]∧M33L1 a0 a1 x3 m gx3=some r) ⟨0,rfl,rfl,h⟩ ⟨rfl,rfl,rfl,rfl,trivial⟩ (sI [0,1]) ?_))))))
    rintro m _ _ ⟨gx3,rfl,rfl,h⟩
    rcases m with _ | m
    ·rw [M33L1] at h;cases h
    rw [M33L1] at h
    generalize hg1:M33L1 a0 a1 x3 m=go1 at h
    rw [M33L1B] at h
    refine sr (L.ite h rfl (Y.lss rfl rfl) (fun c6 h=>?_) (fun c6 h=>?_))
    ·refine ln (W.seq (W.condT rfl (W.skip (E.thenN (W.seq (W.block (sr (L.r 2 rfl (ln (W.seq ?_))))))))))
     refine W.region (L.r 3 rfl (L.m (V:=fun _=>el u0_0 (gx3.toNat*2)) h rfl (Y.indexM (g:=TL.row) (l:=a0.Held) Tryz.underlying63 sz68 rfl rfl (fun w' hw=>hA0_0.cls0 hw)) (fun x7 ex7 h=>(L.y rfl (Y.loadEN (r:=[.int .i64 x7.Tx,.int .i64 x7.Mode]) ag68 sz68 rfl (fun w' hw=>hA0_0.cls0 hw) (idx_map ex7) rfl) (L.callVJ (fun v D=>∃ gb4,v=.bool gb4∧D=Cls w [] [.obj b5 [.int .i64 x3] 3,.obj b2 [.int .i64 a1.Tx,.int .i64 a1.Mode] 68]∧M33K4 gx3 go1 gb4=some r) rfl en58 rfl rfl Tryz.func58 rfl rfl rfl ?_ ?_)))))
     ·refine sr (L.box rfl rfl ?_)
      intro b9
      refine L.r 1 rfl (ln (W.seq (W.quietC mixed (by kernel_rfl) (fun _ hw=>hw.drew) (fun hC=>(U.y rfl (Y.fieldP fd68_0 rfl) (U.y rfl (Y.loadP (i:=0) ag3 rfl rfl rfl) (U.y rfl (Y.fieldP fd68_0 rfl) (U.y rfl (Y.loadP (i:=2) ag3 rfl rfl rfl) (U.ite h rfl (Y.neq rfl rfl) (fun c10 h=>?_) (fun c10 h=>?_))))))))))
      ·refine U.r 1 rfl (U.take rfl (U.y rfl (Y.loadP (i:=1) ag3 rfl rfl rfl) (U.take rfl ?_)))
       obtain ⟨x11,e12,h⟩:=bind1S h
       refine U.y rfl (Y.does en59 rfl (fun w' hw=>(W59 x3 w' _ e12).mono (fun _ _ h=>h.1))) (U.take rfl (U.y rfl (Y.fieldP fd68_1 rfl) (U.take rfl (U.y rfl (Y.loadP (i:=0) ag3 rfl rfl rfl) (U.take rfl (U.m (V:=fun x13=>.int .i64 x13) h rfl (Y.shrM rfl rfl) (fun x13 ex13 h=>(U.take rfl (U.y rfl (Y.and rfl rfl) (U.take rfl (U.y rfl (Y.eql rfl rfl) (U.r 2 rfl (U.nil (E.thenN ?_))))))))))))))
       exact W.ret (E.ret1 rfl rfl (fun w1 hw=>(⟨_,_,rfl,⟨decide ((Go.bits .and .i64 x13 1)=0),rfl,rfl,h⟩,hw.s [1,2]⟩)))
      exact U.r 10 rfl (U.nil (E.thenN (W.ret (E.ret1 rfl rfl (fun w1 hw=>(⟨_,_,rfl,⟨false,rfl,rfl,h⟩,hw.s [1,2]⟩))))))
     rintro _ _ ⟨gb4,rfl,rfl,h⟩
     rw [M33K4] at h
     rcases gb4 with _ | _
     ·replace h:=iteF h
      exact ln (W.condF rfl (W.skip (E.blockN (E.thenN (W.region (L.m (V:=fun x8=>.int .i64 x8) h rfl (Y.addM rfl rfl) (fun x8 ex8 h=>(L.r 1 rfl (L.nil (E.aJ ⟨x8,rfl,rfl,by rw [hg1];exact h⟩ hI))))))))))
     replace h:=iteT h
     refine ln (W.condT rfl (sr (L.r 2 rfl (ln (W.ret (E.blockR (E.thenR (E.KLR (E.blockR (E.KSR ?_))))))))))
     exact E.ret1 rfl rfl (fun w1 hw=>(⟨_,_,rfl,⟨gx3,rfl,rfl,h⟩,hw.s []⟩))
    exact ln (W.seq (W.condF rfl (W.exit (E.thenX (E.KLX (E.blockX (E.joinJ ⟨rfl,rfl,h⟩ trivial (sI []))))))))
   rintro _ _ ⟨rfl,rfl,h⟩
   rw [M33K3] at h
   exact sr (L.r 1 rfl (ln (W.ret (E.ret1 rfl rfl (fun w1 hw=>(⟨_,_,rfl,⟨(-1),rfl,rfl,h⟩,hw⟩))))))
  rintro _ _ ⟨gx2,rfl,rfl,h⟩
  rw [M33K2] at h
  exact L.y rfl (Y.geq rfl rfl) (L.r 1 rfl (ln (W.ret (E.ret1 rfl rfl (fun w1 hw=>(⟨_,_,rfl,⟨decide (0≤gx2),rfl,rfl,h⟩,hw⟩))))))
 rintro _ _ ⟨gb1,rfl,rfl,h⟩
 rw [M33K1] at h
 refine L.y rfl (Y.not rfl) (L.r 1 rfl (ln (W.ret (E.ret1 rfl rfl (fun w1 hw=>?_)))))
 cases h
 exact ⟨_,_,rfl,⟨rfl,rfl⟩,hw⟩
set_option maxRecDepth 100000 in
set_option maxHeartbeats 8000000 in
theorem W53 (a0:TI) (u0_0:Value) (u0_1:Value) (w:World) (r:Int) (h:M53 a0=some r) (hA0_0:At w u0_0 2 (a0.Held.map TL.row)) (hA0_1:At w u0_1 2 (a0.Queue.map TL.row)):Does Tryz.prog 53 [.agg #[.int .i64 a0.Item,u0_0,u0_1]] w fun u m=>u=.int .i64 r∧m=[]:=by
 rw [M53] at h
 refine body (n:=121) Tryz.func53 rfl rfl rfl (Cls.refl w) (sr (L.box rfl rfl ?_))
 intro b1
 refine L.r 1 rfl (nsr (L.alloc rfl ze120 ?_))
 intro b2
 refine L.to (D:=Cls w [] [.obj b2 (((List.replicate 12 (0:Int)).map I).flatten) 120,.obj b1 [.int .i64 a0.Item,u0_0,u0_1] 65]) (fun _ hw=>by first | exact hw | simpa [I,B,SR] using hw) (L.alloc rfl ze120 ?_)
 intro b3
 refine L.to (D:=Cls w [] [.obj b3 (((List.replicate 12 (0:Int)).map I).flatten) 120,.obj b2 (((List.replicate 12 (0:Int)).map I).flatten) 120,.obj b1 [.int .i64 a0.Item,u0_0,u0_1] 65]) (fun _ hw=>by first | exact hw | simpa [I,B,SR] using hw) (ln (W.seqJ (fun gs D=>gs=[(1,pt b1 0),(4,pt b3 0)]∧D=Cls w [] [.obj b3 (((List.replicate 12 (0:Int)).map I).flatten) 120,.obj b1 [.int .i64 a0.Item,u0_0,u0_1] 65]∧M53K1 a0=some r) ?_ ?_))
 ·refine sr (L.y rfl (Y.fieldP fd65_1 rfl) (L.y rfl (Y.loadP (i:=2) ag63 rfl rfl rfl) (L.y rfl (Y.lenM (g:=TL.row) (l:=a0.Held) Tryz.underlying63 rfl (fun w' hw=>hA0_0.cls0 hw)) (L.r 1 rfl (ln (W.block (W.loopJ (fun m gs D=>∃ gx6 gl7,gs=[(1,pt b1 0),(3,pt b2 0),(4,pt b3 0),(14,u0_0),(15,.int .i64 (a0.Held.length:Int)),(16,.int .i64 gx6)]∧D=Cls w [] [.obj b3 (((List.replicate 12 (0:Int)).map I).flatten) 120,.obj b2 ((gl7.map I).flatten) 120,.obj b1 [.int .i64 a0.Item,u0_0,u0_1] 65]∧M53L4 a0 m gx6 gl7=some r) ⟨0,(List.replicate 12 (0:Int)),rfl,rfl,h⟩ ⟨rfl,rfl,rfl,rfl,rfl,rfl,trivial⟩ hI ?_)))))))
  rintro m _ _ ⟨gx6,gl7,rfl,rfl,h⟩
  rcases m with _ | m
  ·rw [M53L4] at h;cases h
  rw [M53L4] at h
  generalize hg4:M53L4 a0 m=go4 at h
  rw [M53L4B] at h
  refine sr (L.ite h rfl (Y.lss rfl rfl) (fun c34 h=>?_) (fun c34 h=>?_))
  ·refine ln (W.seq (W.condT rfl (W.skip (E.thenN (W.seq (W.block (sr (L.m (V:=fun _=>el u0_0 (gx6.toNat*2)) h rfl (Y.indexM (g:=TL.row) (l:=a0.Held) Tryz.underlying63 sz68 rfl rfl (fun w' hw=>hA0_0.cls0 hw)) (fun x35 ex35 h=>(L.y rfl (Y.loadEN (r:=[.int .i64 x35.Tx,.int .i64 x35.Mode]) ag68 sz68 rfl (fun w' hw=>hA0_0.cls0 hw) (idx_map ex35) rfl) (L.alloc rfl ze68 ?_)))))))))))
   intro b36
   refine L.store (i:=0) (vs:=[.int .i64 x35.Tx,.int .i64 x35.Mode]) sz68 rfl rfl rfl rfl (by simp [Value.oneCell',Value.cells,st,pt,el]) rfl nb (ln (W.seq (sr (L.cutJ 8 (fun gs D=>∃ gb8,gs=[(1,pt b1 0),(3,pt b2 0),(4,pt b3 0),(6,pt b36 0),(14,u0_0),(15,.int .i64 (a0.Held.length:Int)),(16,.int .i64 gx6),(27,.bool gb8)]∧D=Cls w [] [.obj b36 [.int .i64 x35.Tx,.int .i64 x35.Mode] 68,.obj b3 (((List.replicate 12 (0:Int)).map I).flatten) 120,.obj b2 ((gl7.map I).flatten) 120,.obj b1 [.int .i64 a0.Item,u0_0,u0_1] 65]∧M53K6 x35 gl7 gx6 go4 gb8=some r) ?_ ?_))))
   ·refine L.y rfl (Y.fieldP fd68_0 rfl) (L.y rfl (Y.loadP (i:=0) ag3 rfl rfl rfl) (L.ite h rfl (Y.lss rfl rfl) (fun c44 h=>?_) (fun c44 h=>?_)))
    ·exact L.r 5 rfl (L.nil (E.jJ ⟨true,rfl,rfl,h⟩ hI))
    refine L.r 1 rfl (L.take rfl (L.y rfl (Y.fieldP fd68_0 rfl) (L.take rfl (L.y rfl (Y.loadP (i:=0) ag3 rfl rfl rfl) (L.take rfl (L.ite h rfl (Y.geq rfl rfl) (fun c45 h=>?_) (fun c45 h=>?_)))))))
    ·exact L.r 1 rfl (L.nil (E.jJ ⟨true,rfl,rfl,h⟩ hI))
    exact L.r 1 rfl (L.nil (E.jJ ⟨false,rfl,rfl,h⟩ hI))
   rintro _ _ ⟨gb8,rfl,rfl,h⟩
   rw [M53K6] at h
   rcases gb8 with _ | _
   ·replace h:=iteF h
    refine L.r 1 rfl (L.take rfl (L.y rfl (Y.fieldP fd68_1 rfl) (L.take rfl (L.y rfl (Y.loadP (i:=0) ag3 rfl rfl rfl) (L.take rfl ?_)))))
    obtain ⟨b37,e38,h⟩:=bind1S h
    refine L.y rfl (Y.does en25 rfl (fun w' hw=>(W25 x35.Mode w' _ e38).mono (fun _ _ h=>h.1))) ?_
    rcases b37 with _ | _
    ·replace h:=iteF h
     refine L.take rfl (L.y rfl (Y.not rfl) (L.r 8 rfl (ln (W.condT rfl (sr (L.r 1 rfl (ln (W.ret (E.thenR (E.blockR ?_))))))))))
     refine E.thenR (E.KLR (E.blockR (E.KSR (E.ret1 rfl rfl (fun w1 hw=>?_)))))
     cases h
     exact ⟨_,_,rfl,⟨rfl,rfl⟩,hw.s []⟩
    replace h:=iteT h
    refine L.take rfl (L.y rfl (Y.not rfl) (L.r 2 rfl (L.take rfl (L.y rfl (Y.fieldP fd68_0 rfl) (L.take rfl (L.y rfl (Y.loadP (i:=0) ag3 rfl rfl rfl) (L.take rfl (L.m (V:=fun _=>pt b2 (0+x35.Tx.toNat*1)) h rfl (Y.indexAM (l:=gl7) Tryz.underlying120 sz3 rfl rfl) (fun x39 ex39 h=>(L.take rfl (L.y rfl (Y.loadAr (q:=2) (row:=I) (j:=0) (p:=.int .i64 x39) ag3 rfl rfl rfl (fun _=>rfl) (idxA_idx ex39) rfl) (L.take rfl (L.ite h rfl (Y.gtr rfl rfl) (fun c40 h=>?_) (fun c40 h=>?_))))))))))))))
    ·refine L.r 1 rfl (ln (W.condT rfl (sr (L.r 1 rfl (ln (W.ret (E.thenR (E.blockR (E.thenR (E.KLR ?_))))))))))
     refine E.blockR (E.KSR (E.ret1 rfl rfl (fun w1 hw=>?_)))
     cases h
     exact ⟨_,_,rfl,⟨rfl,rfl⟩,hw.s []⟩
    refine L.r 1 rfl (ln (W.condF rfl (W.skip (E.thenN (W.region (L.y rfl (Y.fieldP fd68_0 rfl) (L.y rfl (Y.loadP (i:=0) ag3 rfl rfl rfl) (L.y rfl (Y.fieldP fd68_1 rfl) (L.y rfl (Y.loadP (i:=0) ag3 rfl rfl rfl) (L.m (V:=fun _=>pt b2 (0+x35.Tx.toNat*1)) h rfl (Y.indexAM (l:=gl7) Tryz.underlying120 sz3 rfl rfl) (fun x41 ex41 h=>(L.storeArM (q:=2) (row:=I) (vs:=[.int .i64 x35.Mode]) (j:=0) (u1:=x35.Mode) h sz3 rfl rfl rfl rfl rfl (all1 rfl all0) rfl (fun _=>rfl) (idxA_idx ex41) rfl rfl ?_))))))))))))
    intro l42 el42 h
    exact L.nil (E.blockN (E.thenN (W.region (L.m (V:=fun x43=>.int .i64 x43) h rfl (Y.addM rfl rfl) (fun x43 ex43 h=>(L.r 1 rfl (L.nil (E.aJ ⟨x43,l42,rfl,rfl,by rw [hg4];exact h⟩ (sI [1,2,3])))))))))
   replace h:=iteT h
   refine L.r 13 rfl (ln (W.condT rfl (sr (L.r 1 rfl (ln (W.ret (E.thenR (E.blockR (E.thenR (E.KLR ?_))))))))))
   refine E.blockR (E.KSR (E.ret1 rfl rfl (fun w1 hw=>?_)))
   cases h
   exact ⟨_,_,rfl,⟨rfl,rfl⟩,hw.s []⟩
  exact ln (W.seq (W.condF rfl (W.exit (E.thenX (E.KLX (E.blockX (E.jJ ⟨rfl,rfl,h⟩ (sI [0,2]))))))))
 rintro _ _ ⟨rfl,rfl,h⟩
 rw [M53K1] at h
 refine W.seqJ (fun gs D=>gs=[(1,pt b1 0),(4,pt b3 0)]∧D=Cls w [] [.obj b3 (((List.replicate 12 (0:Int)).map I).flatten) 120,.obj b1 [.int .i64 a0.Item,u0_0,u0_1] 65]∧M53K2 a0=some r) ?_ ?_
 ·refine sr (L.y rfl (Y.fieldP fd65_1 rfl) (L.y rfl (Y.loadP (i:=1) ag63 rfl rfl rfl) (L.y rfl (Y.lenM (g:=TL.row) (l:=a0.Held) Tryz.underlying63 rfl (fun w' hw=>hA0_0.cls0 hw)) (L.r 1 rfl (ln (W.block (W.loopJ (fun m gs D=>∃ gx4,gs=[(1,pt b1 0),(4,pt b3 0),(48,u0_0),(49,.int .i64 (a0.Held.length:Int)),(50,.int .i64 gx4)]∧D=Cls w [] [.obj b3 (((List.replicate 12 (0:Int)).map I).flatten) 120,.obj b1 [.int .i64 a0.Item,u0_0,u0_1] 65]∧M53L2 a0 m gx4=some r) ⟨0,rfl,rfl,h⟩ ⟨rfl,rfl,rfl,rfl,rfl,trivial⟩ hI ?_)))))))
  rintro m _ _ ⟨gx4,rfl,rfl,h⟩
  rcases m with _ | m
  ·rw [M53L2] at h;cases h
  rw [M53L2] at h
  generalize hg2:M53L2 a0 m=go2 at h
  rw [M53L2B] at h
  refine sr (L.ite h rfl (Y.lss rfl rfl) (fun c20 h=>?_) (fun c20 h=>?_))
  ·refine ln (W.seq (W.condT rfl (W.skip (E.thenN (W.seqJ (fun gs D=>gs=[(1,pt b1 0),(4,pt b3 0),(48,u0_0),(49,.int .i64 (a0.Held.length:Int)),(50,.int .i64 gx4)]∧D=Cls w [] [.obj b3 (((List.replicate 12 (0:Int)).map I).flatten) 120,.obj b1 [.int .i64 a0.Item,u0_0,u0_1] 65]∧M53K5 gx4 go2=some r) ?_ ?_)))))
   ·refine W.block (sr (L.r 1 rfl (L.m (V:=fun _=>el u0_0 (gx4.toNat*2)) h rfl (Y.indexM (g:=TL.row) (l:=a0.Held) Tryz.underlying63 sz68 rfl rfl (fun w' hw=>hA0_0.cls0 hw)) (fun x22 ex22 h=>(L.y rfl (Y.loadEN (r:=[.int .i64 x22.Tx,.int .i64 x22.Mode]) ag68 sz68 rfl (fun w' hw=>hA0_0.cls0 hw) (idx_map ex22) rfl) (L.alloc rfl ze68 ?_))))))
    intro b23
    refine L.r 1 rfl (L.store (i:=0) (vs:=[.int .i64 x22.Tx,.int .i64 x22.Mode]) sz68 rfl rfl rfl rfl (by simp [Value.oneCell',Value.cells,st,pt,el]) rfl nb (nsr (L.y rfl (Y.fieldP fd65_1 rfl) (L.y rfl (Y.loadP (i:=2) ag63 rfl rfl rfl) (L.r 1 rfl (L.m (V:=fun x24=>.int .i64 x24) h rfl (Y.addM rfl rfl) (fun x24 ex24 h=>(L.m (V:=fun _=>dropv u0_0 x24.toNat 2) h rfl (Y.dropM (g:=TL.row) Tryz.underlying63 sz68 rfl rfl (fun w' hw=>hA0_0.cls0 hw)) (fun l25 el25 h=>(L.y rfl (Y.lenM (g:=TL.row) (l:=l25) Tryz.underlying63 rfl (fun w' hw=>(hA0_0.dropM el25).cls0 hw)) (L.r 1 rfl (L.nil ?_))))))))))))
    refine E.thenN (W.block (W.loopJ (fun m gs D=>∃ gx5,gs=[(1,pt b1 0),(4,pt b3 0),(8,pt b23 0),(48,u0_0),(49,.int .i64 (a0.Held.length:Int)),(50,.int .i64 gx4),(59,dropv u0_0 x24.toNat 2),(60,.int .i64 (l25.length:Int)),(61,.int .i64 gx5)]∧D=Cls w [] [.obj b23 [.int .i64 x22.Tx,.int .i64 x22.Mode] 68,.obj b3 (((List.replicate 12 (0:Int)).map I).flatten) 120,.obj b1 [.int .i64 a0.Item,u0_0,u0_1] 65]∧M53L3 l25 x22 gx4 go2 m gx5=some r) ⟨0,rfl,rfl,h⟩ ⟨rfl,rfl,rfl,rfl,rfl,rfl,rfl,rfl,rfl,trivial⟩ hI ?_))
    rintro m _ _ ⟨gx5,rfl,rfl,h⟩
    rcases m with _ | m
    ·rw [M53L3] at h;cases h
    rw [M53L3] at h
    generalize hg3:M53L3 l25 x22 gx4 go2 m=go3 at h
    rw [M53L3B] at h
    refine sr (L.ite h rfl (Y.lss rfl rfl) (fun c26 h=>?_) (fun c26 h=>?_))
    ·refine ln (W.seq (W.condT rfl (W.skip (E.thenN (W.seq (W.block (sr (L.m (V:=fun _=>el (dropv u0_0 x24.toNat 2) (gx5.toNat*2)) h rfl (Y.indexM (g:=TL.row) (l:=l25) Tryz.underlying63 sz68 rfl rfl (fun w' hw=>(hA0_0.dropM el25).cls0 hw)) (fun x27 ex27 h=>(L.y rfl (Y.loadEN (r:=[.int .i64 x27.Tx,.int .i64 x27.Mode]) ag68 sz68 rfl (fun w' hw=>(hA0_0.dropM el25).cls0 hw) (idx_map ex27) rfl) (L.alloc rfl ze68 ?_)))))))))))
     intro b28
     refine L.store (i:=0) (vs:=[.int .i64 x27.Tx,.int .i64 x27.Mode]) sz68 rfl rfl rfl rfl (by simp [Value.oneCell',Value.cells,st,pt,el]) rfl nb (ln (W.seq (W.quietC mixed (by kernel_rfl) (fun _ hw=>hw.drew) (fun hC=>(U.y rfl (Y.fieldP fd68_1 rfl) (U.y rfl (Y.loadP (i:=1) ag3 rfl rfl rfl) ?_))))))
     obtain ⟨x29,e30,h⟩:=bind1S h
     refine U.y rfl (Y.does en59 rfl (fun w' hw=>(W59 x22.Mode w' _ e30).mono (fun _ _ h=>h.1))) (U.y rfl (Y.fieldP fd68_1 rfl) (U.y rfl (Y.loadP (i:=0) ag3 rfl rfl rfl) (U.m (V:=fun x31=>.int .i64 x31) h rfl (Y.shrM rfl rfl) (fun x31 ex31 h=>(U.y rfl (Y.and rfl rfl) (U.ite h rfl (Y.eql rfl rfl) (fun c32 h=>?_) (fun c32 h=>?_)))))))
     ·refine U.nil (E.thenN (W.condT rfl (sr (L.r 1 rfl (ln (W.ret (E.blockR (E.thenR (E.KLR (E.blockR (E.blockR ?_)))))))))))
      refine E.KSR (E.KLR (E.blockR (E.KSR (E.ret1 rfl rfl (fun w1 hw=>?_)))))
      cases h
      exact ⟨_,_,rfl,⟨rfl,rfl⟩,hw.s []⟩
     exact U.nil (E.thenN (W.condF rfl (W.skip (E.blockN (E.thenN (W.region (L.m (V:=fun x33=>.int .i64 x33) h rfl (Y.addM rfl rfl) (fun x33 ex33 h=>(L.r 1 rfl (L.nil (E.aJ ⟨x33,rfl,rfl,by rw [hg3];exact h⟩ (sI [1,2,3]))))))))))))
    exact ln (W.seq (W.condF rfl (W.exit (E.thenX (E.KLX (E.blockX (E.blockN (E.jJ ⟨rfl,rfl,h⟩ (sI [1,2])))))))))
   rintro _ _ ⟨rfl,rfl,h⟩
   rw [M53K5] at h
   exact W.region (L.m (V:=fun x21=>.int .i64 x21) h rfl (Y.addM rfl rfl) (fun x21 ex21 h=>(L.r 1 rfl (L.nil (E.aJ ⟨x21,rfl,rfl,by rw [hg2];exact h⟩ hI)))))
  exact ln (W.seq (W.condF rfl (W.exit (E.thenX (E.KLX (E.blockX (E.jJ ⟨rfl,rfl,h⟩ hI)))))))
 rintro _ _ ⟨rfl,rfl,h⟩
 rw [M53K2] at h
 refine W.seqJ (fun gs D=>gs=[(1,pt b1 0)]∧D=Cls w [] [.obj b1 [.int .i64 a0.Item,u0_0,u0_1] 65]∧M53K3 a0=some r) ?_ ?_
 ·refine sr (L.y rfl (Y.fieldP fd65_2 rfl) (L.y rfl (Y.loadP (i:=1) ag63 rfl rfl rfl) (L.y rfl (Y.lenM (g:=TL.row) (l:=a0.Queue) Tryz.underlying63 rfl (fun w' hw=>hA0_1.cls0 hw)) (L.r 1 rfl (ln (W.block (W.loopJ (fun m gs D=>∃ gx1 gl2,gs=[(1,pt b1 0),(4,pt b3 0),(76,u0_1),(77,.int .i64 (a0.Queue.length:Int)),(78,.int .i64 gx1)]∧D=Cls w [] [.obj b3 ((gl2.map I).flatten) 120,.obj b1 [.int .i64 a0.Item,u0_0,u0_1] 65]∧M53L1 a0 m gx1 gl2=some r) ⟨0,(List.replicate 12 (0:Int)),rfl,rfl,h⟩ ⟨rfl,rfl,rfl,rfl,rfl,trivial⟩ hI ?_)))))))
  rintro m _ _ ⟨gx1,gl2,rfl,rfl,h⟩
  rcases m with _ | m
  ·rw [M53L1] at h;cases h
  rw [M53L1] at h
  generalize hg1:M53L1 a0 m=go1 at h
  rw [M53L1B] at h
  refine sr (L.ite h rfl (Y.lss rfl rfl) (fun c8 h=>?_) (fun c8 h=>?_))
  ·refine ln (W.seq (W.condT rfl (W.skip (E.thenN (W.seq (W.block (sr (L.m (V:=fun _=>el u0_1 (gx1.toNat*2)) h rfl (Y.indexM (g:=TL.row) (l:=a0.Queue) Tryz.underlying63 sz68 rfl rfl (fun w' hw=>hA0_1.cls0 hw)) (fun x9 ex9 h=>(L.y rfl (Y.loadEN (r:=[.int .i64 x9.Tx,.int .i64 x9.Mode]) ag68 sz68 rfl (fun w' hw=>hA0_1.cls0 hw) (idx_map ex9) rfl) (L.alloc rfl ze68 ?_)))))))))))
   intro b10
   refine L.store (i:=0) (vs:=[.int .i64 x9.Tx,.int .i64 x9.Mode]) sz68 rfl rfl rfl rfl (by simp [Value.oneCell',Value.cells,st,pt,el]) rfl nb (ln (W.seq (sr (L.cutJ 8 (fun gs D=>∃ gb3,gs=[(1,pt b1 0),(4,pt b3 0),(12,pt b10 0),(76,u0_1),(77,.int .i64 (a0.Queue.length:Int)),(78,.int .i64 gx1),(89,.bool gb3)]∧D=Cls w [] [.obj b10 [.int .i64 x9.Tx,.int .i64 x9.Mode] 68,.obj b3 ((gl2.map I).flatten) 120,.obj b1 [.int .i64 a0.Item,u0_0,u0_1] 65]∧M53K4 x9 gl2 gx1 go1 gb3=some r) ?_ ?_))))
   ·refine L.y rfl (Y.fieldP fd68_0 rfl) (L.y rfl (Y.loadP (i:=0) ag3 rfl rfl rfl) (L.ite h rfl (Y.lss rfl rfl) (fun c18 h=>?_) (fun c18 h=>?_)))
    ·exact L.r 5 rfl (L.nil (E.jJ ⟨true,rfl,rfl,h⟩ hI))
    refine L.r 1 rfl (L.take rfl (L.y rfl (Y.fieldP fd68_0 rfl) (L.take rfl (L.y rfl (Y.loadP (i:=0) ag3 rfl rfl rfl) (L.take rfl (L.ite h rfl (Y.geq rfl rfl) (fun c19 h=>?_) (fun c19 h=>?_)))))))
    ·exact L.r 1 rfl (L.nil (E.jJ ⟨true,rfl,rfl,h⟩ hI))
    exact L.r 1 rfl (L.nil (E.jJ ⟨false,rfl,rfl,h⟩ hI))
   rintro _ _ ⟨gb3,rfl,rfl,h⟩
   rw [M53K4] at h
   rcases gb3 with _ | _
   ·replace h:=iteF h
    refine L.r 1 rfl (L.take rfl (L.y rfl (Y.fieldP fd68_1 rfl) (L.take rfl (L.y rfl (Y.loadP (i:=0) ag3 rfl rfl rfl) (L.take rfl ?_)))))
    obtain ⟨b11,e12,h⟩:=bind1S h
    refine L.y rfl (Y.does en25 rfl (fun w' hw=>(W25 x9.Mode w' _ e12).mono (fun _ _ h=>h.1))) ?_
    rcases b11 with _ | _
    ·replace h:=iteF h
     refine L.take rfl (L.y rfl (Y.not rfl) (L.r 8 rfl (ln (W.condT rfl (sr (L.r 1 rfl (ln (W.ret (E.thenR (E.blockR ?_))))))))))
     refine E.thenR (E.KLR (E.blockR (E.KSR (E.ret1 rfl rfl (fun w1 hw=>?_)))))
     cases h
     exact ⟨_,_,rfl,⟨rfl,rfl⟩,hw.s []⟩
    replace h:=iteT h
    refine L.take rfl (L.y rfl (Y.not rfl) (L.r 2 rfl (L.take rfl (L.y rfl (Y.fieldP fd68_0 rfl) (L.take rfl (L.y rfl (Y.loadP (i:=0) ag3 rfl rfl rfl) (L.take rfl (L.m (V:=fun _=>pt b3 (0+x9.Tx.toNat*1)) h rfl (Y.indexAM (l:=gl2) Tryz.underlying120 sz3 rfl rfl) (fun x13 ex13 h=>(L.take rfl (L.y rfl (Y.loadAr (q:=1) (row:=I) (j:=0) (p:=.int .i64 x13) ag3 rfl rfl rfl (fun _=>rfl) (idxA_idx ex13) rfl) (L.take rfl (L.ite h rfl (Y.gtr rfl rfl) (fun c14 h=>?_) (fun c14 h=>?_))))))))))))))
    ·refine L.r 1 rfl (ln (W.condT rfl (sr (L.r 1 rfl (ln (W.ret (E.thenR (E.blockR (E.thenR (E.KLR ?_))))))))))
     refine E.blockR (E.KSR (E.ret1 rfl rfl (fun w1 hw=>?_)))
     cases h
     exact ⟨_,_,rfl,⟨rfl,rfl⟩,hw.s []⟩
    refine L.r 1 rfl (ln (W.condF rfl (W.skip (E.thenN (W.region (L.y rfl (Y.fieldP fd68_0 rfl) (L.y rfl (Y.loadP (i:=0) ag3 rfl rfl rfl) (L.y rfl (Y.fieldP fd68_1 rfl) (L.y rfl (Y.loadP (i:=0) ag3 rfl rfl rfl) (L.m (V:=fun _=>pt b3 (0+x9.Tx.toNat*1)) h rfl (Y.indexAM (l:=gl2) Tryz.underlying120 sz3 rfl rfl) (fun x15 ex15 h=>(L.storeArM (q:=1) (row:=I) (vs:=[.int .i64 x9.Mode]) (j:=0) (u1:=x9.Mode) h sz3 rfl rfl rfl rfl rfl (all1 rfl all0) rfl (fun _=>rfl) (idxA_idx ex15) rfl rfl ?_))))))))))))
    intro l16 el16 h
    exact L.nil (E.blockN (E.thenN (W.region (L.m (V:=fun x17=>.int .i64 x17) h rfl (Y.addM rfl rfl) (fun x17 ex17 h=>(L.r 1 rfl (L.nil (E.aJ ⟨x17,l16,rfl,rfl,by rw [hg1];exact h⟩ (sI [1,2])))))))))
   replace h:=iteT h
   refine L.r 13 rfl (ln (W.condT rfl (sr (L.r 1 rfl (ln (W.ret (E.thenR (E.blockR (E.thenR (E.KLR ?_))))))))))
   refine E.blockR (E.KSR (E.ret1 rfl rfl (fun w1 hw=>?_)))
   cases h
   exact ⟨_,_,rfl,⟨rfl,rfl⟩,hw.s []⟩
  exact ln (W.seq (W.condF rfl (W.exit (E.thenX (E.KLX (E.blockX (E.jJ ⟨rfl,rfl,h⟩ (sI [1]))))))))
 rintro _ _ ⟨rfl,rfl,h⟩
 rw [M53K3] at h
 refine W.seq (W.seq (W.quietC mixed (by kernel_rfl) (fun _ hw=>hw.drew) (fun hC=>(U.y rfl (Y.fieldP fd65_2 rfl) (U.y rfl (Y.loadP (i:=0) ag63 rfl rfl rfl) (U.y rfl (Y.lenM (g:=TL.row) (l:=a0.Queue) Tryz.underlying63 rfl (fun w' hw=>hA0_1.cls0 hw)) (U.ite h rfl (Y.gtr rfl rfl) (fun c4 h=>?_) (fun c4 h=>?_))))))))
 ·refine U.r 1 rfl (U.take rfl (U.y rfl (Y.loadPW (i:=0) ag65 sz65 rfl rfl rfl) (U.take rfl (U.y rfl (Y.fieldP fd65_2 rfl) (U.take rfl (U.y rfl (Y.loadP (i:=0) ag63 rfl rfl rfl) (U.take rfl (U.m (V:=fun _=>el u0_1 ((0:Int).toNat*2)) h rfl (Y.indexM (g:=TL.row) (l:=a0.Queue) Tryz.underlying63 sz68 rfl rfl (fun w' hw=>hA0_1.cls0 hw)) (fun x5 ex5 h=>(U.take rfl (U.y rfl (Y.loadEN (r:=[.int .i64 x5.Tx,.int .i64 x5.Mode]) ag68 sz68 rfl (fun w' hw=>hA0_1.cls0 hw) (idx_map ex5) rfl) (U.take rfl ?_))))))))))))
  obtain ⟨b6,e7,h⟩:=bind1S h
  refine U.y rfl (Y.does en33 rfl (fun w' hw=>(W33 a0 x5 u0_0 u0_1 w' _ e7 (hA0_0.cls0 hw) (hA0_1.cls0 hw)).mono (fun _ _ h=>h.1))) ?_
  rcases b6 with _ | _
  ·replace h:=iteF h
   refine U.r 1 rfl (U.nil (E.thenN (W.condF rfl (W.skip (E.thenN (sr (L.r 1 rfl (ln (W.ret (E.ret1 rfl rfl (fun w1 hw=>?_)))))))))))
   cases h
   exact ⟨_,_,rfl,⟨rfl,rfl⟩,hw.s []⟩
  replace h:=iteT h
  refine U.r 1 rfl (U.nil (E.thenN (W.condT rfl (sr (L.r 1 rfl (ln (W.ret (E.thenR (E.ret1 rfl rfl (fun w1 hw=>?_))))))))))
  cases h
  exact ⟨_,_,rfl,⟨rfl,rfl⟩,hw.s []⟩
 refine U.r 8 rfl (U.nil (E.thenN (W.condF rfl (W.skip (E.thenN (sr (L.r 1 rfl (ln (W.ret (E.ret1 rfl rfl (fun w1 hw=>?_)))))))))))
 cases h
 exact ⟨_,_,rfl,⟨rfl,rfl⟩,hw.s []⟩
set_option maxRecDepth 100000 in
set_option maxHeartbeats 8000000 in
theorem W24 (a0:(List TI)) (u0:Value) (q0:Nat→List Value) (w:World) (r:Int) (h:M24 a0=some r) (hA0:At w u0 3 (zr TI.rowv q0 a0)) (hD0:∀ d∈zs TI.sds q0 a0,At w d.v d.k d.rows):Does Tryz.prog 24 [u0] w fun u m=>u=.int .i64 r∧m=[]:=by
 rw [M24] at h
 refine body (n:=49) Tryz.func24 rfl rfl rfl (Cls.refl w) (sr (L.r 1 rfl (ln (W.seqJ (fun gs D=>gs=[(0,u0)]∧D=Cls w [] []∧M24K1 a0=some r) ?_ ?_))))
 ·refine sr (L.r 1 rfl (L.y rfl (Y.lenMZ (row:=TI.rowv) (vs:=q0) (l:=a0) Tryz.underlying34 rfl (fun w' hw=>hA0.cls0 hw)) (L.ite h rfl (Y.gtr rfl rfl) (fun c15 h=>?_) (fun c15 h=>?_))))
  ·refine ln (W.condT rfl (sr (L.r 1 rfl (ln (W.ret (E.KSR (E.ret1 rfl rfl (fun w1 hw=>?_))))))))
   cases h
   exact ⟨_,_,rfl,⟨rfl,rfl⟩,hw⟩
  exact ln (W.condF rfl (W.skip (E.jJ ⟨rfl,rfl,h⟩ hI)))
 rintro _ _ ⟨rfl,rfl,h⟩
 rw [M24K1] at h
 refine W.seqJ (fun gs D=>gs=[]∧D=Cls w [] []∧M24K2=some r) ?_ ?_
 ·refine sr (L.r 1 rfl (L.y rfl (Y.lenMZ (row:=TI.rowv) (vs:=q0) (l:=a0) Tryz.underlying34 rfl (fun w' hw=>hA0.cls0 hw)) (L.r 1 rfl (ln (W.block (W.loopJ (fun m gs D=>∃ gx1,gs=[(0,u0),(9,u0),(10,.int .i64 (a0.length:Int)),(11,.int .i64 gx1)]∧D=Cls w [] []∧M24L1 a0 m gx1=some r) ⟨0,rfl,rfl,h⟩ ⟨rfl,rfl,rfl,rfl,trivial⟩ hI ?_))))))
  rintro m _ _ ⟨gx1,rfl,rfl,h⟩
  rcases m with _ | m
  ·rw [M24L1] at h;cases h
  rw [M24L1] at h
  generalize hg1:M24L1 a0 m=go1 at h
  rw [M24L1B] at h
  refine sr (L.ite h rfl (Y.lss rfl rfl) (fun c1 h=>?_) (fun c1 h=>?_))
  ·refine ln (W.seq (W.condT rfl (W.skip (E.thenN (W.seq (W.block (sr (L.r 1 rfl (L.m (V:=fun _=>el u0 (gx1.toNat*3)) h rfl (Y.indexMZ (row:=TI.rowv) (vs:=q0) (l:=a0) Tryz.underlying34 sz65 rfl rfl (fun w' hw=>hA0.cls0 hw)) (fun x2 ex2 h=>(L.y rfl (Y.loadEN (r:=[.int .i64 x2.Item,gv (q0 gx1.toNat) 0,gv (q0 gx1.toNat) 1]) ag65 sz65 rfl (fun w' hw=>hA0.cls0 hw) (zr_idx (vs:=q0) ex2) rfl) (L.alloc rfl ze65 ?_))))))))))))
   intro b3
   refine L.r 1 rfl (L.storeC (i:=0) sz65 rfl rfl rfl rfl (fun w hw=>(all1 rfl (all1 ((zAt (sds:=TI.sds) (vs:=q0) (j:=0) (c:=2) hD0 (fun _ _=>rfl) ex2 rfl).cls0 hw).one (all1 ((zAt (sds:=TI.sds) (vs:=q0) (j:=1) (c:=2) hD0 (fun _ _=>rfl) ex2 rfl).cls0 hw).one all0)))) rfl nb (ln (W.seqJ (fun gs D=>gs=[(0,u0),(3,.int .i64 gx1),(4,pt b3 0),(9,u0),(10,.int .i64 (a0.length:Int)),(11,.int .i64 gx1)]∧D=Cls w [] [.obj b3 [.int .i64 x2.Item,gv (q0 gx1.toNat) 0,gv (q0 gx1.toNat) 1] 65]∧M24K3 gx1 a0 x2 go1=some r) ?_ ?_)))
   ·refine sr (L.y rfl (Y.fieldP fd65_0 rfl) (L.y rfl (Y.loadP (i:=0) ag3 rfl rfl rfl) (L.ite h rfl (Y.lss rfl rfl) (fun c13 h=>?_) (fun c13 h=>?_))))
    ·refine L.r 5 rfl (ln (W.condT rfl (sr (L.r 1 rfl (ln (W.ret (E.KSR (E.blockR (E.thenR (E.KLR ?_))))))))))
     refine E.blockR (E.KSR (E.ret1 rfl rfl (fun w1 hw=>?_)))
     cases h
     exact ⟨_,_,rfl,⟨rfl,rfl⟩,hw.s []⟩
    refine L.r 1 rfl (L.take rfl (L.y rfl (Y.fieldP fd65_0 rfl) (L.take rfl (L.y rfl (Y.loadP (i:=0) ag3 rfl rfl rfl) (L.take rfl (L.ite h rfl (Y.geq rfl rfl) (fun c14 h=>?_) (fun c14 h=>?_)))))))
    ·refine L.r 1 rfl (ln (W.condT rfl (sr (L.r 1 rfl (ln (W.ret (E.KSR (E.blockR (E.thenR (E.KLR ?_))))))))))
     refine E.blockR (E.KSR (E.ret1 rfl rfl (fun w1 hw=>?_)))
     cases h
     exact ⟨_,_,rfl,⟨rfl,rfl⟩,hw.s []⟩
    exact L.r 1 rfl (ln (W.condF rfl (W.skip (E.jJ ⟨rfl,rfl,h⟩ hI))))
   rintro _ _ ⟨rfl,rfl,h⟩
   rw [M24K3] at h
   refine W.seq (W.seq (W.quietC mixed (by kernel_rfl) (fun _ hw=>hw.drew) (fun hC=>(U.cutJ hC 13 (fun gs=>∃ gb2,gs=[(0,u0),(4,pt b3 0),(9,u0),(10,.int .i64 (a0.length:Int)),(11,.int .i64 gx1),(36,.bool gb2)]∧M24K4 x2 gx1 go1 gb2=some r) ?_ ?_))))
   ·refine U.r 1 rfl (U.ite h rfl (Y.gtr rfl rfl) (fun c9 h=>?_) (fun c9 h=>?_))
    ·refine U.r 1 rfl (U.take rfl (U.y rfl (Y.fieldP fd65_0 rfl) (U.take rfl (U.y rfl (Y.loadP (i:=0) ag3 rfl rfl rfl) (U.r 2 rfl (U.take rfl (U.m (V:=fun x10=>.int .i64 x10) h rfl (Y.subM rfl rfl) (fun x10 ex10 h=>(U.take rfl (U.m (V:=fun _=>el u0 (x10.toNat*3)) h rfl (Y.indexMZ (row:=TI.rowv) (vs:=q0) (l:=a0) Tryz.underlying34 sz65 rfl rfl (fun w' hw=>hA0.cls0 hw)) (fun x11 ex11 h=>(U.take rfl (U.y rfl (Y.fieldE fd65_0 rfl) (U.take rfl (U.y rfl (Y.loadE (u:=.int .i64 x11.Item) ag3 rfl (fun w' hw=>hA0.cls0 hw) (zr_idx (vs:=q0) ex11) rfl) ?_)))))))))))))))
     refine U.take rfl (U.ite h rfl (Y.leq rfl rfl) (fun c12 h=>?_) (fun c12 h=>?_))
     ·exact U.r 1 rfl (U.nil (E.joinU ⟨true,rfl,h⟩ ⟨rfl,rfl,rfl,rfl,rfl,rfl,trivial⟩))
     exact U.r 1 rfl (U.nil (E.joinU ⟨false,rfl,h⟩ ⟨rfl,rfl,rfl,rfl,rfl,rfl,trivial⟩))
    exact U.r 11 rfl (U.nil (E.joinU ⟨false,rfl,h⟩ ⟨rfl,rfl,rfl,rfl,rfl,rfl,trivial⟩))
   rintro _ ⟨gb2,rfl,h⟩
   rw [M24K4] at h
   rcases gb2 with _ | _
   ·replace h:=iteF h
    refine U.r 1 rfl (U.take rfl (U.y rfl (Y.fieldP fd65_1 rfl) (U.take rfl (U.y rfl (Y.loadP (i:=0) ag63 rfl rfl rfl) (U.take rfl (U.y rfl (Y.lenM (g:=TL.row) (l:=x2.Held) Tryz.underlying63 rfl (fun w' hw=>(zAt (sds:=TI.sds) (vs:=q0) (j:=0) (c:=2) hD0 (fun _ _=>rfl) ex2 rfl).cls0 hw)) (U.take rfl (U.ite h rfl (Y.eql rfl rfl) (fun c4 h=>?_) (fun c4 h=>?_)))))))))
    ·refine U.r 1 rfl (U.nil (E.thenN (W.condT rfl (sr (L.r 1 rfl (ln (W.ret (E.thenR (E.blockR (E.thenR (E.KLR ?_)))))))))))
     refine E.blockR (E.KSR (E.ret1 rfl rfl (fun w1 hw=>?_)))
     cases h
     exact ⟨_,_,rfl,⟨rfl,rfl⟩,hw.s []⟩
    refine U.r 1 rfl (U.nil (E.thenN (W.condF rfl (W.skip (E.thenN (sr (L.y rfl (Y.loadPW (i:=0) ag65 sz65 rfl rfl rfl) ?_)))))))
    obtain ⟨x5,e6,h⟩:=bind1S h
    refine L.y rfl (Y.does en53 rfl (fun w' hw=>(W53 x2 (gv (q0 gx1.toNat) 0) (gv (q0 gx1.toNat) 1) w' _ e6 ((zAt (sds:=TI.sds) (vs:=q0) (j:=0) (c:=2) hD0 (fun _ _=>rfl) ex2 rfl).cls0 hw) ((zAt (sds:=TI.sds) (vs:=q0) (j:=1) (c:=2) hD0 (fun _ _=>rfl) ex2 rfl).cls0 hw)).mono (fun _ _ h=>h.1))) (L.r 1 rfl (nsr (L.r 1 rfl (L.ite h rfl (Y.neq rfl rfl) (fun c7 h=>?_) (fun c7 h=>?_)))))
    ·refine ln (W.condT rfl (sr (L.r 2 rfl (ln (W.ret (E.blockR (E.thenR (E.KLR (E.blockR (E.KSR ?_))))))))))
     refine E.ret1 rfl rfl (fun w1 hw=>?_)
     cases h
     exact ⟨_,_,rfl,⟨rfl,rfl⟩,hw.s []⟩
    exact ln (W.condF rfl (W.skip (E.blockN (E.thenN (W.region (L.m (V:=fun x8=>.int .i64 x8) h rfl (Y.addM rfl rfl) (fun x8 ex8 h=>(L.r 1 rfl (L.nil (E.aJ ⟨x8,rfl,rfl,by rw [hg1];exact h⟩ (sI [])))))))))))
   replace h:=iteT h
   refine U.r 6 rfl (U.nil (E.thenN (W.condT rfl (sr (L.r 1 rfl (ln (W.ret (E.thenR (E.blockR (E.thenR (E.KLR ?_)))))))))))
   refine E.blockR (E.KSR (E.ret1 rfl rfl (fun w1 hw=>?_)))
   cases h
   exact ⟨_,_,rfl,⟨rfl,rfl⟩,hw.s []⟩
  exact ln (W.seq (W.condF rfl (W.exit (E.thenX (E.KLX (E.blockX (E.joinJ ⟨rfl,rfl,h⟩ trivial hI)))))))
 rintro _ _ ⟨rfl,rfl,h⟩
 rw [M24K2] at h
 refine sr (L.r 1 rfl (ln (W.ret (E.ret1 rfl rfl (fun w1 hw=>?_)))))
 cases h
 exact ⟨_,_,rfl,⟨rfl,rfl⟩,hw⟩
set_option maxRecDepth 100000 in
set_option maxHeartbeats 8000000 in
theorem W54 (a0:(List TL)) (u0:Value) (w:World) (r:(List TL)) (h:M54 a0=some r) (hA0:At w u0 2 (a0.map TL.row)):Does Tryz.prog 54 [u0] w fun u m=>∃ v0,u=v0∧m=[.sl v0 68 2 (r.map TL.row)]:=by
 rw [M54] at h
 rcases hA0.shape with ⟨rfl,hn⟩ | ⟨ad,cap,rfl,hl,hm⟩
 ·obtain rfl:a0=[]:=by simpa using hn
  replace h:some ([]:List TL)=some r:=by simpa [app] using h
  refine body (n:=8) Tryz.func54 rfl rfl rfl (Cls.refl w) (sr (L.r 1 rfl (ln (W.seq (sr (L.r 1 rfl (L.y rfl (Y.eqlNil Tryz.underlying63 rfl rfl) (ln (W.condT rfl ?_)))))))))
  refine sr (L.r 1 rfl (ln (W.ret (E.thenR (E.ret1 rfl rfl (fun w1 hw=>?_))))))
  cases h
  exact ⟨_,_,rfl,⟨_,rfl,rfl⟩,(hw.nilSl 68 2)⟩
 refine body (n:=8) Tryz.func54 rfl rfl rfl (Cls.refl w) (sr (L.r 1 rfl (ln (W.seq (sr (L.r 1 rfl (L.y rfl (Y.eqlNil Tryz.underlying63 rfl rfl) (ln (W.condF rfl ?_)))))))))
 refine W.skip (E.thenN (sr (L.lit0 rfl Tryz.underlying63 eL68 ?_)))
 intro b1
 refine L.r 1 rfl (L.appM (i:=0) (g:=TL.row) (l:=[]) (more:=a0) h rfl Tryz.underlying63 eL68 rfl rfl rfl (fun w' hw=>hA0.cls0 hw) (plain_TLock _) rfl ?_)
 intro v2 l3 el3 h
 refine L.r 1 rfl (ln (W.ret (E.ret1 rfl rfl (fun w1 hw=>?_))))
 cases h
 exact ⟨_,_,rfl,⟨_,rfl,rfl⟩,hw⟩
set_option maxRecDepth 100000 in
set_option maxHeartbeats 8000000 in
theorem W28 (a0:(List TI)) (u0:Value) (q0:Nat→List Value) (w:World) (r:(List TI)) (h:M28 a0=some r) (hA0:At w u0 3 (zr TI.rowv q0 a0)) (hD0:∀ d∈zs TI.sds q0 a0,At w d.v d.k d.rows):Does Tryz.prog 28 [u0] w fun u m=>∃ v0 q0,u=v0∧m=[.sl v0 65 3 (zr TI.rowv q0 r),.ss (zs TI.sds q0 r)]:=by
 rw [M28] at h
 refine body (n:=26) Tryz.func28 rfl rfl rfl (Cls.refl w) (sr (L.r 1 rfl (nsr (L.r 1 rfl (ln (W.seqJ (fun gs D=>∃ gv1 gl2 gq3,gs=[(3,gv1)]∧D=Cls w [] [.sl gv1 65 3 (zr TI.rowv gq3 gl2),.ss (zs TI.sds gq3 gl2)]∧M28K1 gl2=some r) ?_ ?_))))))
 ·refine sr (L.r 1 rfl (L.y rfl (Y.lenMZ (row:=TI.rowv) (vs:=q0) (l:=a0) Tryz.underlying34 rfl (fun w' hw=>hA0.cls0 hw)) (L.r 1 rfl (ln (W.block (W.nilZ 65 3 TI.rowv TI.sds (fun _=>[]) (W.loopJ (fun m gs D=>∃ gv4 gl5 gq6 gx7,gs=[(3,gv4),(6,u0),(7,.int .i64 (a0.length:Int)),(8,.int .i64 gx7)]∧D=Cls w [] [.sl gv4 65 3 (zr TI.rowv gq6 gl5),.ss (zs TI.sds gq6 gl5)]∧M28L1 a0 m gl5 gx7=some r) ⟨.slice none 0 0,[],(fun _=>[]),0,rfl,rfl,h⟩ ⟨rfl,rfl,rfl,rfl,trivial⟩ hI ?_)))))))
  rintro m _ _ ⟨gv4,gl5,gq6,gx7,rfl,rfl,h⟩
  rcases m with _ | m
  ·rw [M28L1] at h;cases h
  rw [M28L1] at h
  generalize hg1:M28L1 a0 m=go1 at h
  rw [M28L1B] at h
  refine sr (L.ite h rfl (Y.lss rfl rfl) (fun c1 h=>?_) (fun c1 h=>?_))
  ·refine ln (W.seq (W.condT rfl (W.skip (E.thenN (W.seq (W.block (sr (L.m (V:=fun _=>el u0 (gx7.toNat*3)) h rfl (Y.indexMZ (row:=TI.rowv) (vs:=q0) (l:=a0) Tryz.underlying34 sz65 rfl rfl (fun w' hw=>hA0.cls0 hw)) (fun x2 ex2 h=>(L.y rfl (Y.loadEN (r:=[.int .i64 x2.Item,gv (q0 gx7.toNat) 0,gv (q0 gx7.toNat) 1]) ag65 sz65 rfl (fun w' hw=>hA0.cls0 hw) (zr_idx (vs:=q0) ex2) rfl) (L.alloc rfl ze65 ?_)))))))))))
   intro b3
   refine L.storeC (i:=0) sz65 rfl rfl rfl rfl (fun w hw=>(all1 rfl (all1 ((zAt (sds:=TI.sds) (vs:=q0) (j:=0) (c:=2) hD0 (fun _ _=>rfl) ex2 rfl).cls0 hw).one (all1 ((zAt (sds:=TI.sds) (vs:=q0) (j:=1) (c:=2) hD0 (fun _ _=>rfl) ex2 rfl).cls0 hw).one all0)))) rfl nb (ln (W.drawn2 (k:=13) (stC [[10,11],[11]] [Cls w [] [.obj b3 [.int .i64 x2.Item,gv (q0 gx7.toNat) 0,gv (q0 gx7.toNat) 1] 65,.sl gv4 65 3 (zr TI.rowv gq6 gl5),.ss (zs TI.sds gq6 gl5)],Cls w [] [.obj b3 [.int .i64 x2.Item,gv (q0 gx7.toNat) 0,gv (q0 gx7.toNat) 1] 65,.sl gv4 65 3 (zr TI.rowv gq6 gl5),.ss (zs TI.sds gq6 gl5)]] (Cls w [] [.obj b3 [.int .i64 x2.Item,gv (q0 gx7.toNat) 0,gv (q0 gx7.toNat) 1] 65])) rfl mixed (fun _ hw=>hw.drew) (Sc.now (by kernel_rfl) hI) (V2.zz [] (Zc.on' (Zc.on' (Zc.fin hI) (sI [0])) (sI [0])) (fun hz65=>(V2.r [0] (by kernel_rfl) rfl (V2.q 1 [] hz65 rfl rfl (Y.fieldP fd65_0 rfl) (V2.q 2 [] hz65 rfl rfl (Y.loadP (i:=0) ag3 rfl rfl rfl) (V2.q 3 [] hz65 rfl rfl (Y.fieldP fd65_1 rfl) (V2.q 4 [] hz65 rfl rfl (Y.loadP (i:=0) ag63 rfl rfl rfl) (V2.q 6 [] hz65 rfl rfl (Y.fieldP fd65_2 rfl) (V2.q 7 [] hz65 rfl rfl (Y.loadP (i:=0) ag63 rfl rfl rfl) (V2.eff (i:=5) (by kernel_rfl) rfl ?_))))))))))))
   obtain ⟨l66,e68,h⟩:=bind1S h
   refine L.does rfl en54 rfl (fun w' hw=>W54 x2.Held (gv (q0 gx7.toNat) 0) w' _ e68 ((zAt (sds:=TI.sds) (vs:=q0) (j:=0) (c:=2) hD0 (fun _ _=>rfl) ex2 rfl).cls0 hw)) ?_
   rintro v67 _ ⟨_,rfl,rfl⟩
   refine L.nil (E.toV2 (stC [[10,11],[11]] [Cls w [] [.sl v67 68 2 (l66.map TL.row),.obj b3 [.int .i64 x2.Item,gv (q0 gx7.toNat) 0,gv (q0 gx7.toNat) 1] 65,.sl gv4 65 3 (zr TI.rowv gq6 gl5),.ss (zs TI.sds gq6 gl5)],Cls w [] [.obj b3 [.int .i64 x2.Item,gv (q0 gx7.toNat) 0,gv (q0 gx7.toNat) 1] 65,.sl gv4 65 3 (zr TI.rowv gq6 gl5),.ss (zs TI.sds gq6 gl5)]] (Cls w [] [.obj b3 [.int .i64 x2.Item,gv (q0 gx7.toNat) 0,gv (q0 gx7.toNat) 1] 65])) 5 (by kernel_rfl) (Sc.stay (sI [1,2,3]) (Sc.stay hI (Sc.stayD hI))) (Sc.now (by kernel_rfl) hI) (V2.eff (i:=8) (by kernel_rfl) rfl ?_))
   obtain ⟨l69,e71,h⟩:=bind1S h
   refine L.does rfl en54 rfl (fun w' hw=>W54 x2.Queue (gv (q0 gx7.toNat) 1) w' _ e71 ((zAt (sds:=TI.sds) (vs:=q0) (j:=1) (c:=2) hD0 (fun _ _=>rfl) ex2 rfl).cls0 hw)) ?_
   rintro v70 _ ⟨_,rfl,rfl⟩
   refine L.nil (E.toV2 (stC [[10,11],[11]] [Cls w [] [.sl v70 68 2 (l69.map TL.row),.sl v67 68 2 (l66.map TL.row),.obj b3 [.int .i64 x2.Item,gv (q0 gx7.toNat) 0,gv (q0 gx7.toNat) 1] 65,.sl gv4 65 3 (zr TI.rowv gq6 gl5),.ss (zs TI.sds gq6 gl5)],Cls w [] [.obj b3 [.int .i64 x2.Item,gv (q0 gx7.toNat) 0,gv (q0 gx7.toNat) 1] 65,.sl gv4 65 3 (zr TI.rowv gq6 gl5),.ss (zs TI.sds gq6 gl5)]] (Cls w [] [.obj b3 [.int .i64 x2.Item,gv (q0 gx7.toNat) 0,gv (q0 gx7.toNat) 1] 65])) 8 (by kernel_rfl) (Sc.stay (sI [1,2,3,4]) (Sc.stay hI (Sc.stayD hI))) (Sc.now (by kernel_rfl) hI) (V2.eff (i:=9) (by kernel_rfl) rfl (L.y rfl (Y.buildC (cells:=#[.int .i64 x2.Item,v67,v70]) rfl (fun w hw=>by rcases ((As.at_ (hw.get (i:=1) rfl))).shape with ⟨h0,_⟩ | ⟨_,_,h0,_,_⟩ <;> rcases ((As.at_ (hw.get (i:=0) rfl))).shape with ⟨h1,_⟩ | ⟨_,_,h1,_,_⟩ <;> simp only [h0,h1] <;> kernel_rfl)) (L.nil (E.toV2 (stC [[10,11],[11]] [Cls w [] [.sl v70 68 2 (l69.map TL.row),.sl v67 68 2 (l66.map TL.row),.obj b3 [.int .i64 x2.Item,gv (q0 gx7.toNat) 0,gv (q0 gx7.toNat) 1] 65,.sl gv4 65 3 (zr TI.rowv gq6 gl5),.ss (zs TI.sds gq6 gl5)],Cls w [] [.obj b3 [.int .i64 x2.Item,gv (q0 gx7.toNat) 0,gv (q0 gx7.toNat) 1] 65,.sl gv4 65 3 (zr TI.rowv gq6 gl5),.ss (zs TI.sds gq6 gl5)]] (Cls w [] [.obj b3 [.int .i64 x2.Item,gv (q0 gx7.toNat) 0,gv (q0 gx7.toNat) 1] 65])) 9 (by kernel_rfl) (Sc.stay hI (Sc.stay hI (Sc.stayD hI))) (Sc.now (by kernel_rfl) hI) (V2.eff (i:=10) (by kernel_rfl) rfl (L.litAgg rfl Tryz.underlying34 eL65 rfl rfl rfl ?_)))))))
   intro b74
   refine L.to (D:=Cls w [] [.sl v67 68 2 (l66.map TL.row),.sl v70 68 2 (l69.map TL.row),.sl (sv b74 1) 65 3 (zr TI.rowv (fun _=>[v67,v70]) ([(⟨x2.Item,l66,l69⟩:TI)])),.obj b3 [.int .i64 x2.Item,gv (q0 gx7.toNat) 0,gv (q0 gx7.toNat) 1] 65,.sl gv4 65 3 (zr TI.rowv gq6 gl5),.ss (zs TI.sds gq6 gl5)]) (sI [2,1,0,3,4,5]) (L.gath [⟨v67,68,2,l66.map TL.row⟩,⟨v70,68,2,l69.map TL.row⟩] (L.to (D:=Cls w [] [.ss (zs TI.sds (fun _=>[v67,v70]) ([(⟨x2.Item,l66,l69⟩:TI)])),.sl (sv b74 1) 65 3 (zr TI.rowv (fun _=>[v67,v70]) ([(⟨x2.Item,l66,l69⟩:TI)])),.obj b3 [.int .i64 x2.Item,gv (q0 gx7.toNat) 0,gv (q0 gx7.toNat) 1] 65,.sl gv4 65 3 (zr TI.rowv gq6 gl5),.ss (zs TI.sds gq6 gl5)]) hI (L.nil (E.toV2 (stC [[11]] [Cls w [] [.ss (zs TI.sds (fun _=>[v67,v70]) ([(⟨x2.Item,l66,l69⟩:TI)])),.sl (sv b74 1) 65 3 (zr TI.rowv (fun _=>[v67,v70]) ([(⟨x2.Item,l66,l69⟩:TI)])),.obj b3 [.int .i64 x2.Item,gv (q0 gx7.toNat) 0,gv (q0 gx7.toNat) 1] 65,.sl gv4 65 3 (zr TI.rowv gq6 gl5),.ss (zs TI.sds gq6 gl5)]] (Cls w [] [.obj b3 [.int .i64 x2.Item,gv (q0 gx7.toNat) 0,gv (q0 gx7.toNat) 1] 65])) 10 (by kernel_rfl) (Sc.past rfl (Sc.stay (sI [2,3,4]) (Sc.stayD hI))) (Sc.now (by kernel_rfl) hI) (V2.eff (i:=11) (by kernel_rfl) rfl (L.to (D:=Cls w [] [.sl gv4 65 3 (zr TI.rowv gq6 gl5),.ss (zs TI.sds gq6 gl5),.sl (sv b74 1) 65 3 (zr TI.rowv (fun _=>[v67,v70]) ([(⟨x2.Item,l66,l69⟩:TI)])),.ss (zs TI.sds (fun _=>[v67,v70]) ([(⟨x2.Item,l66,l69⟩:TI)])),.obj b3 [.int .i64 x2.Item,gv (q0 gx7.toNat) 0,gv (q0 gx7.toNat) 1] 65]) (sI [3,4,1,0,2]) (L.appZ (row:=TI.rowv) (sds:=TI.sds) (vs:=gq6) (vs2:=(fun _=>[v67,v70])) (l:=gl5) (l2:=[(⟨x2.Item,l66,l69⟩:TI)]) h rfl Tryz.underlying34 eL65 rfl rfl rfl (fun w hw=>plain_zr plz_TLockItem (As.ssOne (hw.get (i:=3) rfl))) ?_)))))))
   intro v76 q77 l75 el75 h
   exact L.nil (E.toV2 (stC [] [] (Cls w [] [.sl v76 65 3 (zr TI.rowv q77 l75),.ss (zs TI.sds q77 l75),.obj b3 [.int .i64 x2.Item,gv (q0 gx7.toNat) 0,gv (q0 gx7.toNat) 1] 65])) 11 (by kernel_rfl) (Sc.past rfl (Sc.stayD (sI [2]))) (Sc.atD hI) (V2.r [12] (by kernel_rfl) rfl (V2.done (by kernel_rfl) (E.blockN (E.thenN (W.region (L.m (V:=fun x79=>.int .i64 x79) h rfl (Y.addM rfl rfl) (fun x79 ex79 h=>(L.r 1 rfl (L.nil (E.aJ ⟨v76,l75,q77,x79,rfl,rfl,by rw [hg1];exact h⟩ (sI [0,1]))))))))))))
  exact ln (W.seq (W.condF rfl (W.exit (E.thenX (E.KLX (E.blockX (E.jJ ⟨gv4,gl5,gq6,rfl,rfl,h⟩ hI)))))))
 rintro _ _ ⟨gv1,gl2,gq3,rfl,rfl,h⟩
 rw [M28K1] at h
 refine sr (L.r 2 rfl (ln (W.ret (E.ret1 rfl rfl (fun w1 hw=>?_)))))
 cases h
 exact ⟨_,_,rfl,⟨_,_,rfl,rfl⟩,hw⟩
end Go.Proofs.YtlecphianicdhaaGreat
