import Derived.Test.YtlecphianicdhaaGreatTwW1
import Derived.Test.YtlecphianicdhaaGreatChecked
import Derived.KernelRfl
import Derived.Test.YtlecphianicdhaaGreatZe
namespace Go.Proofs.YtlecphianicdhaaGreat
open Go.S
set_option linter.unusedVariables false
set_option linter.unusedSimpArgs false
set_option maxRecDepth 100000 in
set_option maxHeartbeats 8000000 in
theorem W22 (a0:(List TI)) (a1:Int) (u0:Value) (q0:Nat→List Value) (K:World→Prop) (w:World) (hK:StbF K w []) (r:((List TI)×(List Int)×Int)) (h:M22 a0 a1=some r) (hA0:Fz K [] u0 3 (zr TI.rowv q0 a0)) (hD0:FzA K [] (zs TI.sds q0 a0)):Does Tryz.prog 22 [u0,.int .i64 a1] w fun u m=>∃ c,m=[.os c]∧∃ v0 q0 v1,u=.tuple #[v0,v1,.int .i64 r.2.2]∧Fz K c v0 3 (zr TI.rowv q0 r.1)∧FzA K c (zs TI.sds q0 r.1)∧Fz K c v1 1 (r.2.1.map I):=by
 rw [M22] at h
 refine body (n:=82) Tryz.func22 rfl rfl rfl (Cls.reflF w) (sr (L.box rfl rfl ?_))
 intro b1
 refine L.r 3 rfl (ln (W.seqJ (fun gs D=>gs=[(0,u0),(3,pt b1 0)]∧D=Cls w [] [.obj b1 [.int .i64 a1] 3,.os []]∧M22K1 a1 a0=some r) ?_ ?_))
 ·refine sr (L.r 1 rfl ?_)
  obtain ⟨x210,e211,h⟩:=bind1S h
  refine L.y rfl (Y.does en24 rfl (fun w' hw=>(W24 a0 u0 q0 w' _ e211 (hA0.up.clsP hK hw rfl) (hD0.up.clsP hK hw rfl)).mono (fun _ _ h=>h.1))) (L.r 1 rfl (nsr (L.r 1 rfl (L.ite h rfl (Y.neq rfl rfl) (fun c212 h=>?_) (fun c212 h=>?_)))))
  ·refine ln (W.condT rfl (sr (L.r 4 rfl (ln (W.ret (E.KSR (E.ret3 rfl rfl rfl rfl (fun w1 hw=>?_))))))))
   cases h
   exact ⟨_,_,rfl,⟨[],rfl,(.slice none 0 0),(fun _=>[]),(.slice none 0 0),rfl,Fz.nil,FzA.nil,Fz.nil⟩,hw.s [1]⟩
  exact ln (W.condF rfl (W.skip (E.jJ ⟨rfl,rfl,h⟩ hI)))
 rintro _ _ ⟨rfl,rfl,h⟩
 rw [M22K1] at h
 refine W.seqJ (fun gs D=>gs=[(0,u0),(3,pt b1 0)]∧D=Cls w [] [.obj b1 [.int .i64 a1] 3,.os []]∧M22K2 a0 a1=some r) ?_ ?_
 ·refine sr (L.y rfl (Y.loadP (i:=0) ag3 rfl rfl rfl) (L.ite h rfl (Y.lss rfl rfl) (fun c208 h=>?_) (fun c208 h=>?_)))
  ·refine L.r 4 rfl (ln (W.condT rfl (sr (L.r 3 rfl (ln (W.ret (E.KSR (E.ret3 rfl rfl rfl rfl (fun w1 hw=>?_)))))))))
   cases h
   exact ⟨_,_,rfl,⟨[],rfl,(.slice none 0 0),(fun _=>[]),(.slice none 0 0),rfl,Fz.nil,FzA.nil,Fz.nil⟩,hw.s [1]⟩
  refine L.r 1 rfl (L.take rfl (L.y rfl (Y.loadP (i:=0) ag3 rfl rfl rfl) (L.take rfl (L.ite h rfl (Y.geq rfl rfl) (fun c209 h=>?_) (fun c209 h=>?_)))))
  ·refine L.r 1 rfl (ln (W.condT rfl (sr (L.r 3 rfl (ln (W.ret (E.KSR (E.ret3 rfl rfl rfl rfl (fun w1 hw=>?_)))))))))
   cases h
   exact ⟨_,_,rfl,⟨[],rfl,(.slice none 0 0),(fun _=>[]),(.slice none 0 0),rfl,Fz.nil,FzA.nil,Fz.nil⟩,hw.s [1]⟩
  exact L.r 1 rfl (ln (W.condF rfl (W.skip (E.jJ ⟨rfl,rfl,h⟩ hI))))
 rintro _ _ ⟨rfl,rfl,h⟩
 rw [M22K2] at h
 refine sr (L.y rfl (Y.func rfl) (L.r 1 rfl (nsr (L.r 1 rfl (nsr (L.r 1 rfl ?_))))))
 refine ln (W.seqJ (fun gs D=>∃ gc1 gv2 gl3 gq4,∃ gu6:Unit,∃ gv7 gl8,gs=[(9,gv2),(10,gv7)]∧D=Cls w [] [.sl gv2 65 3 (zr TI.rowv gq4 gl3),.sl gv7 3 1 (gl8.map I),.os gc1]∧FzA K gc1 (zs TI.sds gq4 gl3)∧M22K3 gl3 gl8=some r) ?_ ?_)
 ·refine sr (L.r 1 rfl ?_)
  obtain ⟨l8,e11,h⟩:=bind1S h
  refine L.does rfl en28 rfl (fun w' hw=>W28 a0 u0 q0 w' _ e11 (hA0.up.clsP hK hw rfl) (hD0.up.clsP hK hw rfl)) ?_
  rintro v9 _ ⟨_,q10,rfl,rfl⟩
  refine L.y rfl (Y.lenMZ (row:=TI.rowv) (vs:=q10) (l:=l8) Tryz.underlying34 rfl (fun w hw=>As.at_ (hw.get (i:=0) rfl))) (L.r 1 rfl (ln (W.block (W.nilSl 65 3 (W.nilSl 3 1 (W.frmLe (sds:=TI.sds) (vs:=q10) (l:=l8) (s:=3) (j:=(0)) (j':=((0:Int).toNat)) rfl (Nat.zero_le _) (W.loopJ (fun m gs D=>∃ gc9 gv10 gl11 gq12,∃ gu14:Unit,∃ gv15 gl16 gx17,gs=[(8,.func (.func 51) #[] #[pt b1 0]),(9,gv10),(10,gv15),(26,v9),(27,.int .i64 (l8.length:Int)),(28,.int .i64 gx17)]∧D=Cls w [] [.obj b1 [.int .i64 a1] 3,.sl gv10 65 3 (zr TI.rowv gq12 gl11),.sl gv15 3 1 (gl16.map I),.sl v9 65 3 (zr TI.rowv q10 l8),.ss (zsd TI.sds q10 l8 gx17.toNat),.os gc9]∧FzA K gc9 (zs TI.sds gq12 gl11)∧M22L1 l8 a1 m gl11 gl16 gx17=some r) ⟨[],.slice none 0 0,[],(fun _=>[]),(),.slice none 0 0,[],0,rfl,rfl,FzA.nil,h⟩ ⟨rfl,rfl,rfl,rfl,rfl,rfl,trivial⟩ (sI [4,1,0,2,3,5]) ?_)))))))
  rintro m _ _ ⟨gc9,gv10,gl11,gq12,gu14,gv15,gl16,gx17,rfl,rfl,hG13,h⟩
  rcases m with _ | m
  ·rw [M22L1] at h;cases h
  rw [M22L1] at h
  generalize hg1:M22L1 l8 a1 m=go1 at h
  rw [M22L1B] at h
  refine sr (L.ite h rfl (Y.lss rfl rfl) (fun c12 h=>?_) (fun c12 h=>?_))
  ·refine ln (W.seq (W.condT rfl (W.skip (E.thenN (W.seqJ (fun gs D=>∃ gc18 gv19 gl20 gq21,∃ gu23:Unit,∃ gv24 gl25,gs=[(8,.func (.func 51) #[] #[pt b1 0]),(9,gv19),(10,gv24),(26,v9),(27,.int .i64 (l8.length:Int)),(28,.int .i64 gx17)]∧D=Cls w [] [.obj b1 [.int .i64 a1] 3,.sl gv19 65 3 (zr TI.rowv gq21 gl20),.sl gv24 3 1 (gl25.map I),.sl v9 65 3 (zr TI.rowv q10 l8),.ss (zsd TI.sds q10 l8 ((gx17+1:Int).toNat)),.os gc18]∧FzA K gc18 (zs TI.sds gq21 gl20)∧M22K4 gx17 go1 gl20 gl25=some r) ?_ ?_)))))
   ·refine W.block (sr (L.m (V:=fun _=>el v9 (gx17.toNat*3)) h rfl (Y.indexMZ (row:=TI.rowv) (vs:=q10) (l:=l8) Tryz.underlying34 sz65 rfl rfl (fun w hw=>As.at_ (hw.get (i:=3) rfl))) (fun x14 ex14 h=>(L.ssPop (sds:=TI.sds) (vs:=q10) (l:=l8) (a:=gx17) (s:=4) (j:=(gx17.toNat)) rfl ex14 (Nat.le_refl _) (L.to (D:=Cls w [] [.sl (gv (q10 gx17.toNat) 0) 68 2 (x14.Held.map TL.row),.sl (gv (q10 gx17.toNat) 1) 68 2 (x14.Queue.map TL.row),.ss (zsd TI.sds q10 l8 ((gx17+1:Int).toNat)),.obj b1 [.int .i64 a1] 3,.sl gv10 65 3 (zr TI.rowv gq12 gl11),.sl gv15 3 1 (gl16.map I),.sl v9 65 3 (zr TI.rowv q10 l8),.os gc9]) hI (L.y rfl (Y.loadEN (r:=[.int .i64 x14.Item,(gv (q10 gx17.toNat) 0),(gv (q10 gx17.toNat) 1)]) ag65 sz65 rfl (fun w hw=>As.at_ (hw.get (i:=6) rfl)) (zr_idx (vs:=q10) ex14) rfl) (L.alloc rfl ze65 ?_)))))))
    intro b15
    refine L.storeC (i:=0) sz65 rfl rfl rfl rfl (fun w hw=>(all1 rfl (all1 (As.at_ (hw.get (i:=1) rfl)).one (all1 (As.at_ (hw.get (i:=2) rfl)).one all0)))) rfl nb (ln (W.seqJ (fun gs D=>∃ gu27:Unit,∃ gv28 gl29 gv30 gl31,gs=[(8,.func (.func 51) #[] #[pt b1 0]),(9,gv10),(10,gv15),(12,pt b15 0),(26,v9),(27,.int .i64 (l8.length:Int)),(28,.int .i64 gx17)]∧D=Cls w [] [.obj b15 [.int .i64 x14.Item,gv28,gv30] 65,.obj b1 [.int .i64 a1] 3,.sl gv10 65 3 (zr TI.rowv gq12 gl11),.sl gv15 3 1 (gl16.map I),.sl v9 65 3 (zr TI.rowv q10 l8),.ss (zsd TI.sds q10 l8 ((gx17+1:Int).toNat)),.sl gv28 68 2 (gl29.map TL.row),.sl gv30 68 2 (gl31.map TL.row),.os gc9]∧FzA K gc9 (zs TI.sds gq12 gl11)∧M22K5 x14 gl11 gx17 go1 gl16 gl29 gl31=some r) ?_ ?_))
    ·refine W.drawn2 (k:=12) (stC [[3,7],[7]] [Cls w [] [.obj b15 [.int .i64 x14.Item,(gv (q10 gx17.toNat) 0),(gv (q10 gx17.toNat) 1)] 65,.sl (gv (q10 gx17.toNat) 0) 68 2 (x14.Held.map TL.row),.sl (gv (q10 gx17.toNat) 1) 68 2 (x14.Queue.map TL.row),.ss (zsd TI.sds q10 l8 ((gx17+1:Int).toNat)),.obj b1 [.int .i64 a1] 3,.sl gv10 65 3 (zr TI.rowv gq12 gl11),.sl gv15 3 1 (gl16.map I),.sl v9 65 3 (zr TI.rowv q10 l8),.os gc9],Cls w [] [.sl (gv (q10 gx17.toNat) 1) 68 2 (x14.Queue.map TL.row),.obj b1 [.int .i64 a1] 3,.sl gv15 3 1 (gl16.map I),.sl v9 65 3 (zr TI.rowv q10 l8),.os gc9]] (Cls w [] [.obj b1 [.int .i64 a1] 3,.sl gv15 3 1 (gl16.map I),.sl v9 65 3 (zr TI.rowv q10 l8),.os gc9])) rfl mixed (fun _ hw=>hw.drew) (Sc.now (by kernel_rfl) hI) (V2.zz [] (Zc.on' (Zc.on' (Zc.fin hI) (sI [1,2,3,4])) (sI [4,6,7,8])) (fun hz74=>(V2.q 0 [] hz74 rfl rfl (Y.fieldP fd65_1 rfl) (V2.r [2] (by kernel_rfl) rfl (V2.q 4 [] hz74 rfl rfl (Y.fieldP fd65_2 rfl) (V2.r [6] (by kernel_rfl) rfl (V2.eff2 (i1:=1) (i2:=5) (by kernel_rfl) rfl rfl ?_ ?_)))))))
     ·refine L.y rfl (Y.loadP (i:=0) ag63 rfl rfl rfl) (L.nil (E.toV2 (stC [[3,7],[7]] [Cls w [] [.obj b15 [.int .i64 x14.Item,(gv (q10 gx17.toNat) 0),(gv (q10 gx17.toNat) 1)] 65,.sl (gv (q10 gx17.toNat) 0) 68 2 (x14.Held.map TL.row),.sl (gv (q10 gx17.toNat) 1) 68 2 (x14.Queue.map TL.row),.ss (zsd TI.sds q10 l8 ((gx17+1:Int).toNat)),.obj b1 [.int .i64 a1] 3,.sl gv10 65 3 (zr TI.rowv gq12 gl11),.sl gv15 3 1 (gl16.map I),.sl v9 65 3 (zr TI.rowv q10 l8),.os gc9],Cls w [] [.sl (gv (q10 gx17.toNat) 1) 68 2 (x14.Queue.map TL.row),.obj b1 [.int .i64 a1] 3,.sl gv15 3 1 (gl16.map I),.sl v9 65 3 (zr TI.rowv q10 l8),.os gc9]] (Cls w [] [.obj b1 [.int .i64 a1] 3,.sl gv15 3 1 (gl16.map I),.sl v9 65 3 (zr TI.rowv q10 l8),.os gc9])) 1 (by kernel_rfl) (Sc.stay hI (Sc.stay hI (Sc.stayD hI))) (Sc.now (by kernel_rfl) hI) (V2.eff2 (i1:=3) (i2:=5) (by kernel_rfl) rfl rfl ?_ ?_)))
      ·refine L.callJ (fun v D=>∃ gu104:Unit,∃ gv105 gl106,v=gv105∧D=Cls w [] [.obj b15 [.int .i64 x14.Item,(gv (q10 gx17.toNat) 0),(gv (q10 gx17.toNat) 1)] 65,.obj b1 [.int .i64 a1] 3,.sl gv10 65 3 (zr TI.rowv gq12 gl11),.sl gv15 3 1 (gl16.map I),.sl v9 65 3 (zr TI.rowv q10 l8),.ss (zsd TI.sds q10 l8 ((gx17+1:Int).toNat)),.sl gv105 68 2 (gl106.map TL.row),.sl (gv (q10 gx17.toNat) 1) 68 2 (x14.Queue.map TL.row),.os gc9]∧FzA K gc9 (zs TI.sds gq12 gl11)∧M22K10 x14 a1 gl11 gx17 go1 gl16 gl106=some r) rfl en52 rfl Tryz.func52 rfl rfl rfl ?_ ?_
       ·refine sr (L.r 1 rfl (nsr (L.r 2 rfl (L.callJ (fun v D=>∃ gx140,∃ gu142:Unit,v=.int .i64 gx140∧D=Cls w [] [.obj b15 [.int .i64 x14.Item,(gv (q10 gx17.toNat) 0),(gv (q10 gx17.toNat) 1)] 65,.obj b1 [.int .i64 a1] 3,.sl (gv (q10 gx17.toNat) 0) 68 2 (x14.Held.map TL.row),.sl (gv (q10 gx17.toNat) 1) 68 2 (x14.Queue.map TL.row),.sl gv10 65 3 (zr TI.rowv gq12 gl11),.sl gv15 3 1 (gl16.map I),.sl v9 65 3 (zr TI.rowv q10 l8),.ss (zsd TI.sds q10 l8 ((gx17+1:Int).toNat)),.os gc9]∧FzA K gc9 (zs TI.sds gq12 gl11)∧M22K19 x14 a1 gl11 gx17 go1 gl16 gx140=some r) rfl en47 rfl Tryz.func47 rfl rfl rfl ?_ ?_))))
        ·refine sr (L.r 1 rfl (ln (W.seqJ (fun gs D=>∃ gu161:Unit,gs=[]∧D=Cls w [] [.obj b15 [.int .i64 x14.Item,(gv (q10 gx17.toNat) 0),(gv (q10 gx17.toNat) 1)] 65,.obj b1 [.int .i64 a1] 3,.sl (gv (q10 gx17.toNat) 0) 68 2 (x14.Held.map TL.row),.sl (gv (q10 gx17.toNat) 1) 68 2 (x14.Queue.map TL.row),.sl gv10 65 3 (zr TI.rowv gq12 gl11),.sl gv15 3 1 (gl16.map I),.sl v9 65 3 (zr TI.rowv q10 l8),.ss (zsd TI.sds q10 l8 ((gx17+1:Int).toNat)),.os gc9]∧FzA K gc9 (zs TI.sds gq12 gl11)∧M22K24 x14 a1 gl11 gx17 go1 gl16=some r) ?_ ?_)))
         ·refine sr (L.r 1 rfl (L.y rfl (Y.lenM (g:=TL.row) (l:=x14.Held) Tryz.underlying63 rfl (fun w hw=>As.at_ (hw.get (i:=1) rfl))) (L.r 1 rfl (ln (W.block (W.loopJ (fun m gs D=>∃ gx164,∃ gu166:Unit,gs=[(0,(gv (q10 gx17.toNat) 0)),(1,.func (.func 51) #[] #[pt b1 0]),(7,.int .i64 (x14.Held.length:Int)),(8,.int .i64 gx164)]∧D=Cls w [] [.obj b15 [.int .i64 x14.Item,(gv (q10 gx17.toNat) 0),(gv (q10 gx17.toNat) 1)] 65,.obj b1 [.int .i64 a1] 3,.sl (gv (q10 gx17.toNat) 0) 68 2 (x14.Held.map TL.row),.sl (gv (q10 gx17.toNat) 1) 68 2 (x14.Queue.map TL.row),.sl gv10 65 3 (zr TI.rowv gq12 gl11),.sl gv15 3 1 (gl16.map I),.sl v9 65 3 (zr TI.rowv q10 l8),.ss (zsd TI.sds q10 l8 ((gx17+1:Int).toNat)),.os gc9]∧FzA K gc9 (zs TI.sds gq12 gl11)∧M22L7 x14 a1 gl11 gx17 go1 gl16 m gx164=some r) ⟨0,(),rfl,rfl,hG13,h⟩ ⟨rfl,rfl,rfl,rfl,trivial⟩ (sI [0,4,1,2,5,6,7,3,8]) ?_))))))
          rintro m _ _ ⟨gx164,gu166,rfl,rfl,hG165,h⟩
          rcases m with _ | m
          ·rw [M22L7] at h;cases h
          rw [M22L7] at h
          generalize hg7:M22L7 x14 a1 gl11 gx17 go1 gl16 m=go7 at h
          rw [M22L7B] at h
          refine sr (L.ite h rfl (Y.lss rfl rfl) (fun c119 h=>?_) (fun c119 h=>?_))
          ·refine ln (W.seq (W.condT rfl (W.skip (E.thenN (W.seq (W.block (sr (L.r 2 rfl (ln (W.seq ?_))))))))))
           refine W.region (L.r 3 rfl (L.m (V:=fun _=>el (gv (q10 gx17.toNat) 0) (gx164.toNat*2)) h rfl (Y.indexM (g:=TL.row) (l:=x14.Held) Tryz.underlying63 sz68 rfl rfl (fun w hw=>As.at_ (hw.get (i:=2) rfl))) (fun x120 ex120 h=>(L.y rfl (Y.loadEN (r:=[.int .i64 x120.Tx,.int .i64 x120.Mode]) ag68 sz68 rfl (fun w hw=>As.at_ (hw.get (i:=2) rfl)) (idx_map ex120) rfl) (L.callVJ (fun v D=>∃ gu168:Unit,v=.bool (decide (x120.Tx=a1))∧D=Cls w [] [.obj b15 [.int .i64 x14.Item,(gv (q10 gx17.toNat) 0),(gv (q10 gx17.toNat) 1)] 65,.obj b1 [.int .i64 a1] 3,.sl (gv (q10 gx17.toNat) 0) 68 2 (x14.Held.map TL.row),.sl (gv (q10 gx17.toNat) 1) 68 2 (x14.Queue.map TL.row),.sl gv10 65 3 (zr TI.rowv gq12 gl11),.sl gv15 3 1 (gl16.map I),.sl v9 65 3 (zr TI.rowv q10 l8),.ss (zsd TI.sds q10 l8 ((gx17+1:Int).toNat)),.os gc9]∧FzA K gc9 (zs TI.sds gq12 gl11)∧M22K25 x120 a1 x14 gl11 gx17 go1 gl16 gx164 go7=some r) rfl en51 rfl rfl Tryz.func51 rfl rfl rfl ?_ ?_)))))
           ·refine sr (L.box rfl rfl ?_)
            intro b122
            refine L.r 1 rfl (nsr (L.y rfl (Y.fieldP fd68_0 rfl) (L.y rfl (Y.loadP (i:=0) ag3 rfl rfl rfl) (L.y rfl (Y.loadP (i:=2) ag3 rfl rfl rfl) (L.y rfl (Y.eql rfl rfl) (L.r 1 rfl (ln (W.ret (E.ret1 rfl rfl (fun w1 hw=>?_))))))))))
            exact ⟨_,_,rfl,⟨(),rfl,rfl,hG165,h⟩,hw.s [1,2,3,4,5,6,7,8,9]⟩
           rintro _ _ ⟨gu168,rfl,rfl,hG167,h⟩
           rw [M22K25] at h
           refine ln (W.caseB (q:=16) h rfl (fun h=>?_) (fun h=>?_))
           ·exact W.condT rfl (sr (L.r 2 rfl (ln (W.ret (E.blockR (E.thenR (E.KLR (E.blockR (E.KSR (E.ret1 rfl rfl (fun w1 hw=>(⟨_,_,rfl,⟨gx164,(),rfl,rfl,hG167,h⟩,hw⟩))))))))))))
           exact W.condF rfl (W.skip (E.blockN (E.thenN (W.region (L.m (V:=fun x121=>.int .i64 x121) h rfl (Y.addM rfl rfl) (fun x121 ex121 h=>(L.r 1 rfl (L.nil (E.aJ ⟨x121,(),rfl,rfl,hG167,by rw [hg7];exact h⟩ hI)))))))))
          exact ln (W.seq (W.condF rfl (W.exit (E.thenX (E.KLX (E.blockX (E.joinJ ⟨(),rfl,rfl,hG165,h⟩ trivial hI)))))))
         rintro _ _ ⟨gu161,rfl,rfl,hG160,h⟩
         rw [M22K24] at h
         exact sr (L.r 1 rfl (ln (W.ret (E.ret1 rfl rfl (fun w1 hw=>(⟨_,_,rfl,⟨(-1),(),rfl,rfl,hG160,h⟩,hw⟩))))))
        rintro _ _ ⟨gx140,gu142,rfl,rfl,hG141,h⟩
        rw [M22K19] at h
        refine L.r 1 rfl (ln (W.seqJ (fun gs D=>∃ gu144:Unit,gs=[(0,(gv (q10 gx17.toNat) 0)),(1,.func (.func 51) #[] #[pt b1 0]),(5,.int .i64 gx140)]∧D=Cls w [] [.obj b15 [.int .i64 x14.Item,(gv (q10 gx17.toNat) 0),(gv (q10 gx17.toNat) 1)] 65,.obj b1 [.int .i64 a1] 3,.sl (gv (q10 gx17.toNat) 0) 68 2 (x14.Held.map TL.row),.sl (gv (q10 gx17.toNat) 1) 68 2 (x14.Queue.map TL.row),.sl gv10 65 3 (zr TI.rowv gq12 gl11),.sl gv15 3 1 (gl16.map I),.sl v9 65 3 (zr TI.rowv q10 l8),.ss (zsd TI.sds q10 l8 ((gx17+1:Int).toNat)),.os gc9]∧FzA K gc9 (zs TI.sds gq12 gl11)∧M22K20 gx140 a1 x14 gl11 gx17 go1 gl16=some r) ?_ ?_))
        ·refine sr (L.r 1 rfl (L.ite h rfl (Y.eql rfl rfl) (fun c118 h=>?_) (fun c118 h=>?_)))
         ·exact ln (W.condT rfl (sr (L.r 2 rfl (ln (W.ret (E.KSR (E.ret1 rfl rfl (fun w1 hw=>(⟨_,_,rfl,⟨(),(gv (q10 gx17.toNat) 0),x14.Held,rfl,rfl,hG141,h⟩,hw.s [0,1,4,5,6,7,2,3,8]⟩)))))))))
         exact ln (W.condF rfl (W.skip (E.jJ ⟨(),rfl,rfl,hG141,h⟩ hI)))
        rintro _ _ ⟨gu144,rfl,rfl,hG143,h⟩
        rw [M22K20] at h
        refine W.seqJ (fun gs D=>∃ gl145 gx146,∃ gu148:Unit,gs=[(0,(gv (q10 gx17.toNat) 0)),(5,.int .i64 gx146)]∧D=Cls w [] [.obj b15 [.int .i64 x14.Item,(gv (q10 gx17.toNat) 0),(gv (q10 gx17.toNat) 1)] 65,.obj b1 [.int .i64 a1] 3,.sl (gv (q10 gx17.toNat) 0) 68 2 (gl145.map TL.row),.sl (gv (q10 gx17.toNat) 1) 68 2 (x14.Queue.map TL.row),.sl gv10 65 3 (zr TI.rowv gq12 gl11),.sl gv15 3 1 (gl16.map I),.sl v9 65 3 (zr TI.rowv q10 l8),.ss (zsd TI.sds q10 l8 ((gx17+1:Int).toNat)),.os gc9]∧FzA K gc9 (zs TI.sds gq12 gl11)∧M22K21 x14 a1 gl11 gx17 go1 gl16 gl145 gx146=some r) ?_ ?_
        ·refine sr (L.r 1 rfl (L.m (V:=fun x107=>.int .i64 x107) h rfl (Y.addM rfl rfl) (fun x107 ex107 h=>(L.r 1 rfl (ln (W.block (W.loopJ (fun m gs D=>∃ gl151 gx152 gx153,∃ gu155:Unit,gs=[(0,(gv (q10 gx17.toNat) 0)),(1,.func (.func 51) #[] #[pt b1 0]),(5,.int .i64 gx152),(6,.int .i64 gx153)]∧D=Cls w [] [.obj b15 [.int .i64 x14.Item,(gv (q10 gx17.toNat) 0),(gv (q10 gx17.toNat) 1)] 65,.obj b1 [.int .i64 a1] 3,.sl (gv (q10 gx17.toNat) 0) 68 2 (gl151.map TL.row),.sl (gv (q10 gx17.toNat) 1) 68 2 (x14.Queue.map TL.row),.sl gv10 65 3 (zr TI.rowv gq12 gl11),.sl gv15 3 1 (gl16.map I),.sl v9 65 3 (zr TI.rowv q10 l8),.ss (zsd TI.sds q10 l8 ((gx17+1:Int).toNat)),.os gc9]∧FzA K gc9 (zs TI.sds gq12 gl11)∧M22L6 a1 x14 gl11 gx17 go1 gl16 m gl151 gx152 gx153=some r) ⟨x14.Held,gx140,x107,(),rfl,rfl,hG143,h⟩ ⟨rfl,rfl,rfl,rfl,trivial⟩ hI ?_)))))))
         rintro m _ _ ⟨gl151,gx152,gx153,gu155,rfl,rfl,hG154,h⟩
         rcases m with _ | m
         ·rw [M22L6] at h;cases h
         rw [M22L6] at h
         generalize hg6:M22L6 a1 x14 gl11 gx17 go1 gl16 m=go6 at h
         rw [M22L6B] at h
         refine W.seqJ (fun gs D=>∃ gu157:Unit,gs=[(0,(gv (q10 gx17.toNat) 0)),(1,.func (.func 51) #[] #[pt b1 0]),(5,.int .i64 gx152),(6,.int .i64 gx153)]∧D=Cls w [] [.obj b15 [.int .i64 x14.Item,(gv (q10 gx17.toNat) 0),(gv (q10 gx17.toNat) 1)] 65,.obj b1 [.int .i64 a1] 3,.sl (gv (q10 gx17.toNat) 0) 68 2 (gl151.map TL.row),.sl (gv (q10 gx17.toNat) 1) 68 2 (x14.Queue.map TL.row),.sl gv10 65 3 (zr TI.rowv gq12 gl11),.sl gv15 3 1 (gl16.map I),.sl v9 65 3 (zr TI.rowv q10 l8),.ss (zsd TI.sds q10 l8 ((gx17+1:Int).toNat)),.os gc9]∧FzA K gc9 (zs TI.sds gq12 gl11)∧M22K22 gl151 gx153 a1 gx152 go6=some r) ?_ ?_
         ·refine sr (L.r 2 rfl (L.y rfl (Y.lenM (g:=TL.row) (l:=gl151) Tryz.underlying63 rfl (fun w hw=>As.at_ (hw.get (i:=2) rfl))) (L.ite h rfl (Y.lss rfl rfl) (fun c117 h=>?_) (fun c117 h=>?_))))
          ·exact ln (W.condT rfl (W.skip (E.jJ ⟨(),rfl,rfl,hG154,h⟩ hI)))
          exact ln (W.condF rfl (W.exit (E.KSX (E.KLX (E.blockX (E.jJ ⟨gl151,gx152,(),rfl,rfl,hG154,h⟩ hI))))))
         rintro _ _ ⟨gu157,rfl,rfl,hG156,h⟩
         rw [M22K22] at h
         refine W.seq (W.block (sr (L.r 2 rfl (L.m (V:=fun _=>el (gv (q10 gx17.toNat) 0) (gx153.toNat*2)) h rfl (Y.indexM (g:=TL.row) (l:=gl151) Tryz.underlying63 sz68 rfl rfl (fun w hw=>As.at_ (hw.get (i:=2) rfl))) (fun x108 ex108 h=>(L.y rfl (Y.loadEN (r:=[.int .i64 x108.Tx,.int .i64 x108.Mode]) ag68 sz68 rfl (fun w hw=>As.at_ (hw.get (i:=2) rfl)) (idx_map ex108) rfl) (L.alloc rfl ze68 ?_)))))))
         intro b109
         refine L.store (i:=0) (vs:=[.int .i64 x108.Tx,.int .i64 x108.Mode]) sz68 rfl rfl rfl rfl (by simp [Value.oneCell',Value.cells,st,pt,el]) rfl nb (nsr (L.r 1 rfl (L.y rfl (Y.loadPW (i:=0) ag68 sz68 rfl rfl rfl) (L.callVJ (fun v D=>∃ gu159:Unit,v=.bool (decide (x108.Tx=a1))∧D=Cls w [] [.obj b109 [.int .i64 x108.Tx,.int .i64 x108.Mode] 68,.obj b15 [.int .i64 x14.Item,(gv (q10 gx17.toNat) 0),(gv (q10 gx17.toNat) 1)] 65,.obj b1 [.int .i64 a1] 3,.sl (gv (q10 gx17.toNat) 0) 68 2 (gl151.map TL.row),.sl (gv (q10 gx17.toNat) 1) 68 2 (x14.Queue.map TL.row),.sl gv10 65 3 (zr TI.rowv gq12 gl11),.sl gv15 3 1 (gl16.map I),.sl v9 65 3 (zr TI.rowv q10 l8),.ss (zsd TI.sds q10 l8 ((gx17+1:Int).toNat)),.os gc9]∧FzA K gc9 (zs TI.sds gq12 gl11)∧M22K23 x108 a1 gl151 gx152 gx153 go6=some r) rfl en51 rfl rfl Tryz.func51 rfl rfl rfl ?_ ?_))))
         ·refine sr (L.box rfl rfl ?_)
          intro b116
          refine L.r 1 rfl (nsr (L.y rfl (Y.fieldP fd68_0 rfl) (L.y rfl (Y.loadP (i:=0) ag3 rfl rfl rfl) (L.y rfl (Y.loadP (i:=3) ag3 rfl rfl rfl) (L.y rfl (Y.eql rfl rfl) (L.r 1 rfl (ln (W.ret (E.ret1 rfl rfl (fun w1 hw=>?_))))))))))
          exact ⟨_,_,rfl,⟨(),rfl,rfl,hG156,h⟩,hw.s [1,2,3,4,5,6,7,8,9,10]⟩
         rintro _ _ ⟨gu159,rfl,rfl,hG158,h⟩
         rw [M22K23] at h
         refine L.iteB h rfl (Y.not rfl) (fun c110 h=>?_) (fun c110 h=>?_)
         ·refine ln (W.condT rfl (sr (L.r 2 rfl (L.y rfl (Y.loadPW (i:=0) ag68 sz68 rfl rfl rfl) (L.m (V:=fun _=>el (gv (q10 gx17.toNat) 0) (gx152.toNat*2)) h rfl (Y.indexM (g:=TL.row) (l:=gl151) Tryz.underlying63 sz68 rfl rfl (fun w hw=>As.at_ (hw.get (i:=3) rfl))) (fun x111 ex111 h=>(L.storeSlM (q:=3) (row:=TL.row) (vs:=[.int .i64 x108.Tx,.int .i64 x108.Mode]) (j:=0) (u1:=x108) h sz68 rfl rfl rfl rfl rfl (all1 rfl (all1 rfl all0)) rfl ex111 rfl rfl ?_)))))))
          intro l112 el112 h
          exact nr (L.r 1 rfl (L.m (V:=fun x113=>.int .i64 x113) h rfl (Y.addM rfl rfl) (fun x113 ex113 h=>(L.r 1 rfl (L.nil (E.blockN (E.thenN (W.region (L.r 1 rfl (L.m (V:=fun x114=>.int .i64 x114) h rfl (Y.addM rfl rfl) (fun x114 ex114 h=>(L.r 1 rfl (L.nil (E.aJ ⟨l112,x113,x114,(),rfl,rfl,hG158,by rw [hg6];exact h⟩ (sI [1,2,3,4,5,6,7,8,9])))))))))))))))
         exact ln (W.condF rfl (W.skip (E.blockN (E.thenN (W.region (L.r 1 rfl (L.m (V:=fun x115=>.int .i64 x115) h rfl (Y.addM rfl rfl) (fun x115 ex115 h=>(L.r 1 rfl (L.nil (E.aJ ⟨gl151,gx152,x115,(),rfl,rfl,hG158,by rw [hg6];exact h⟩ (sI [1,2,3,4,5,6,7,8,9]))))))))))))
        rintro _ _ ⟨gl145,gx146,gu148,rfl,rfl,hG147,h⟩
        rw [M22K21] at h
        refine sr (L.r 2 rfl (L.m (V:=fun _=>dropv (gv (q10 gx17.toNat) 0) gx146.toNat 2) h rfl (Y.dropM (g:=TL.row) Tryz.underlying63 sz68 rfl rfl (fun w hw=>As.at_ (hw.get (i:=2) rfl))) (fun l103 el103 h=>(L.clearM (i:=2) (g:=TL.row) (z0:=(⟨0,0⟩:TL)) (a:=gx146) h Tryz.underlying63 eL68 ze68 (fun u hu=>((plain_TLock _):Plain ([(⟨0,0⟩:TL)].map TL.row)) _ (List.mem_cons_self ..) u hu) rfl rfl ?_))))
        intro l104 el104 h
        refine nsr (L.r 2 rfl ?_)
        obtain ⟨l105,el105,h⟩:=bind1S h
        exact L.cutM (i:=2) (g:=TL.row) el105 rfl Tryz.underlying63 sz68 rfl rfl rfl (fun v106=>(L.r 1 rfl (ln (W.ret (E.ret1 rfl rfl (fun w1 hw=>(⟨_,_,rfl,⟨(),v106,l105,rfl,rfl,hG147,h⟩,hw.s [0,1,4,5,6,7,2,3,8]⟩)))))))
       rintro gv105 _ ⟨gu104,_,gl106,rfl,rfl,hG103,h⟩
       rw [M22K10] at h
       refine L.nil (E.toV2 (stC [[7]] [Cls w [] [.obj b1 [.int .i64 a1] 3,.sl gv15 3 1 (gl16.map I),.sl v9 65 3 (zr TI.rowv q10 l8),.sl gv105 68 2 (gl106.map TL.row),.sl (gv (q10 gx17.toNat) 1) 68 2 (x14.Queue.map TL.row),.os gc9]] (Cls w [] [.obj b1 [.int .i64 a1] 3,.sl gv15 3 1 (gl16.map I),.sl v9 65 3 (zr TI.rowv q10 l8),.sl gv105 68 2 (gl106.map TL.row),.os gc9])) 3 (by kernel_rfl) (Sc.past rfl (Sc.stay (sI [4,0,1,2,5]) (Sc.stayD (sI [0,1,2,4])))) (Sc.now (by kernel_rfl) (sI [1,3,4,6,7,8])) (V2.eff (i:=5) (by kernel_rfl) rfl (L.y rfl (Y.loadP (i:=0) ag63 rfl rfl rfl) (L.nil (E.toV2 (stC [[7]] [Cls w [] [.obj b1 [.int .i64 a1] 3,.sl gv15 3 1 (gl16.map I),.sl v9 65 3 (zr TI.rowv q10 l8),.sl gv105 68 2 (gl106.map TL.row),.sl (gv (q10 gx17.toNat) 1) 68 2 (x14.Queue.map TL.row),.os gc9]] (Cls w [] [.obj b1 [.int .i64 a1] 3,.sl gv15 3 1 (gl16.map I),.sl v9 65 3 (zr TI.rowv q10 l8),.sl gv105 68 2 (gl106.map TL.row),.os gc9])) 5 (by kernel_rfl) (Sc.stay hI (Sc.stayD hI)) (Sc.now (by kernel_rfl) (sI [1,3,4,6,7,8])) (V2.eff (i:=7) (by kernel_rfl) rfl (L.callJ (fun v D=>∃ gu108:Unit,∃ gv109 gl110,v=gv109∧D=Cls w [] [.obj b15 [.int .i64 x14.Item,(gv (q10 gx17.toNat) 0),(gv (q10 gx17.toNat) 1)] 65,.obj b1 [.int .i64 a1] 3,.sl gv10 65 3 (zr TI.rowv gq12 gl11),.sl gv15 3 1 (gl16.map I),.sl v9 65 3 (zr TI.rowv q10 l8),.ss (zsd TI.sds q10 l8 ((gx17+1:Int).toNat)),.sl gv105 68 2 (gl106.map TL.row),.sl gv109 68 2 (gl110.map TL.row),.os gc9]∧FzA K gc9 (zs TI.sds gq12 gl11)∧M22K11 x14 gl11 gx17 go1 gl16 gl106 gl110=some r) rfl en52 rfl Tryz.func52 rfl rfl rfl ?_ ?_)))))))
       ·refine sr (L.r 1 rfl (nsr (L.r 2 rfl (L.callJ (fun v D=>∃ gx111,∃ gu113:Unit,v=.int .i64 gx111∧D=Cls w [] [.obj b15 [.int .i64 x14.Item,(gv (q10 gx17.toNat) 0),(gv (q10 gx17.toNat) 1)] 65,.obj b1 [.int .i64 a1] 3,.sl (gv (q10 gx17.toNat) 1) 68 2 (x14.Queue.map TL.row),.sl gv10 65 3 (zr TI.rowv gq12 gl11),.sl gv15 3 1 (gl16.map I),.sl v9 65 3 (zr TI.rowv q10 l8),.ss (zsd TI.sds q10 l8 ((gx17+1:Int).toNat)),.sl gv105 68 2 (gl106.map TL.row),.os gc9]∧FzA K gc9 (zs TI.sds gq12 gl11)∧M22K12 x14 gl11 gx17 go1 gl16 gl106 a1 gx111=some r) rfl en47 rfl Tryz.func47 rfl rfl rfl ?_ ?_))))
        ·refine sr (L.r 1 rfl (ln (W.seqJ (fun gs D=>∃ gu132:Unit,gs=[]∧D=Cls w [] [.obj b15 [.int .i64 x14.Item,(gv (q10 gx17.toNat) 0),(gv (q10 gx17.toNat) 1)] 65,.obj b1 [.int .i64 a1] 3,.sl (gv (q10 gx17.toNat) 1) 68 2 (x14.Queue.map TL.row),.sl gv10 65 3 (zr TI.rowv gq12 gl11),.sl gv15 3 1 (gl16.map I),.sl v9 65 3 (zr TI.rowv q10 l8),.ss (zsd TI.sds q10 l8 ((gx17+1:Int).toNat)),.sl gv105 68 2 (gl106.map TL.row),.os gc9]∧FzA K gc9 (zs TI.sds gq12 gl11)∧M22K17 x14 gl11 gx17 go1 gl16 gl106 a1=some r) ?_ ?_)))
         ·refine sr (L.r 1 rfl (L.y rfl (Y.lenM (g:=TL.row) (l:=x14.Queue) Tryz.underlying63 rfl (fun w hw=>As.at_ (hw.get (i:=7) rfl))) (L.r 1 rfl (ln (W.block (W.loopJ (fun m gs D=>∃ gx135,∃ gu137:Unit,gs=[(0,(gv (q10 gx17.toNat) 1)),(1,.func (.func 51) #[] #[pt b1 0]),(7,.int .i64 (x14.Queue.length:Int)),(8,.int .i64 gx135)]∧D=Cls w [] [.obj b15 [.int .i64 x14.Item,(gv (q10 gx17.toNat) 0),(gv (q10 gx17.toNat) 1)] 65,.obj b1 [.int .i64 a1] 3,.sl (gv (q10 gx17.toNat) 1) 68 2 (x14.Queue.map TL.row),.sl gv10 65 3 (zr TI.rowv gq12 gl11),.sl gv15 3 1 (gl16.map I),.sl v9 65 3 (zr TI.rowv q10 l8),.ss (zsd TI.sds q10 l8 ((gx17+1:Int).toNat)),.sl gv105 68 2 (gl106.map TL.row),.os gc9]∧FzA K gc9 (zs TI.sds gq12 gl11)∧M22L5 x14 a1 gl11 gx17 go1 gl16 gl106 m gx135=some r) ⟨0,(),rfl,rfl,hG103,h⟩ ⟨rfl,rfl,rfl,rfl,trivial⟩ (sI [0,1,7,2,3,4,5,6,8]) ?_))))))
          rintro m _ _ ⟨gx135,gu137,rfl,rfl,hG136,h⟩
          rcases m with _ | m
          ·rw [M22L5] at h;cases h
          rw [M22L5] at h
          generalize hg5:M22L5 x14 a1 gl11 gx17 go1 gl16 gl106 m=go5 at h
          rw [M22L5B] at h
          refine sr (L.ite h rfl (Y.lss rfl rfl) (fun c99 h=>?_) (fun c99 h=>?_))
          ·refine ln (W.seq (W.condT rfl (W.skip (E.thenN (W.seq (W.block (sr (L.r 2 rfl (ln (W.seq ?_))))))))))
           refine W.region (L.r 3 rfl (L.m (V:=fun _=>el (gv (q10 gx17.toNat) 1) (gx135.toNat*2)) h rfl (Y.indexM (g:=TL.row) (l:=x14.Queue) Tryz.underlying63 sz68 rfl rfl (fun w hw=>As.at_ (hw.get (i:=2) rfl))) (fun x100 ex100 h=>(L.y rfl (Y.loadEN (r:=[.int .i64 x100.Tx,.int .i64 x100.Mode]) ag68 sz68 rfl (fun w hw=>As.at_ (hw.get (i:=2) rfl)) (idx_map ex100) rfl) (L.callVJ (fun v D=>∃ gu139:Unit,v=.bool (decide (x100.Tx=a1))∧D=Cls w [] [.obj b15 [.int .i64 x14.Item,(gv (q10 gx17.toNat) 0),(gv (q10 gx17.toNat) 1)] 65,.obj b1 [.int .i64 a1] 3,.sl (gv (q10 gx17.toNat) 1) 68 2 (x14.Queue.map TL.row),.sl gv10 65 3 (zr TI.rowv gq12 gl11),.sl gv15 3 1 (gl16.map I),.sl v9 65 3 (zr TI.rowv q10 l8),.ss (zsd TI.sds q10 l8 ((gx17+1:Int).toNat)),.sl gv105 68 2 (gl106.map TL.row),.os gc9]∧FzA K gc9 (zs TI.sds gq12 gl11)∧M22K18 x100 a1 x14 gl11 gx17 go1 gl16 gl106 gx135 go5=some r) rfl en51 rfl rfl Tryz.func51 rfl rfl rfl ?_ ?_)))))
           ·refine sr (L.box rfl rfl ?_)
            intro b102
            refine L.r 1 rfl (nsr (L.y rfl (Y.fieldP fd68_0 rfl) (L.y rfl (Y.loadP (i:=0) ag3 rfl rfl rfl) (L.y rfl (Y.loadP (i:=2) ag3 rfl rfl rfl) (L.y rfl (Y.eql rfl rfl) (L.r 1 rfl (ln (W.ret (E.ret1 rfl rfl (fun w1 hw=>?_))))))))))
            exact ⟨_,_,rfl,⟨(),rfl,rfl,hG136,h⟩,hw.s [1,2,3,4,5,6,7,8,9]⟩
           rintro _ _ ⟨gu139,rfl,rfl,hG138,h⟩
           rw [M22K18] at h
           refine ln (W.caseB (q:=16) h rfl (fun h=>?_) (fun h=>?_))
           ·exact W.condT rfl (sr (L.r 2 rfl (ln (W.ret (E.blockR (E.thenR (E.KLR (E.blockR (E.KSR (E.ret1 rfl rfl (fun w1 hw=>(⟨_,_,rfl,⟨gx135,(),rfl,rfl,hG138,h⟩,hw⟩))))))))))))
           exact W.condF rfl (W.skip (E.blockN (E.thenN (W.region (L.m (V:=fun x101=>.int .i64 x101) h rfl (Y.addM rfl rfl) (fun x101 ex101 h=>(L.r 1 rfl (L.nil (E.aJ ⟨x101,(),rfl,rfl,hG138,by rw [hg5];exact h⟩ hI)))))))))
          exact ln (W.seq (W.condF rfl (W.exit (E.thenX (E.KLX (E.blockX (E.joinJ ⟨(),rfl,rfl,hG136,h⟩ trivial hI)))))))
         rintro _ _ ⟨gu132,rfl,rfl,hG131,h⟩
         rw [M22K17] at h
         exact sr (L.r 1 rfl (ln (W.ret (E.ret1 rfl rfl (fun w1 hw=>(⟨_,_,rfl,⟨(-1),(),rfl,rfl,hG131,h⟩,hw⟩))))))
        rintro _ _ ⟨gx111,gu113,rfl,rfl,hG112,h⟩
        rw [M22K12] at h
        refine L.r 1 rfl (ln (W.seqJ (fun gs D=>∃ gu115:Unit,gs=[(0,(gv (q10 gx17.toNat) 1)),(1,.func (.func 51) #[] #[pt b1 0]),(5,.int .i64 gx111)]∧D=Cls w [] [.obj b15 [.int .i64 x14.Item,(gv (q10 gx17.toNat) 0),(gv (q10 gx17.toNat) 1)] 65,.obj b1 [.int .i64 a1] 3,.sl (gv (q10 gx17.toNat) 1) 68 2 (x14.Queue.map TL.row),.sl gv10 65 3 (zr TI.rowv gq12 gl11),.sl gv15 3 1 (gl16.map I),.sl v9 65 3 (zr TI.rowv q10 l8),.ss (zsd TI.sds q10 l8 ((gx17+1:Int).toNat)),.sl gv105 68 2 (gl106.map TL.row),.os gc9]∧FzA K gc9 (zs TI.sds gq12 gl11)∧M22K13 gx111 a1 x14 gl11 gx17 go1 gl16 gl106=some r) ?_ ?_))
        ·refine sr (L.r 1 rfl (L.ite h rfl (Y.eql rfl rfl) (fun c98 h=>?_) (fun c98 h=>?_)))
         ·exact ln (W.condT rfl (sr (L.r 2 rfl (ln (W.ret (E.KSR (E.ret1 rfl rfl (fun w1 hw=>(⟨_,_,rfl,⟨(),(gv (q10 gx17.toNat) 1),x14.Queue,rfl,rfl,hG112,h⟩,hw.s [0,1,3,4,5,6,7,2,8]⟩)))))))))
         exact ln (W.condF rfl (W.skip (E.jJ ⟨(),rfl,rfl,hG112,h⟩ hI)))
        rintro _ _ ⟨gu115,rfl,rfl,hG114,h⟩
        rw [M22K13] at h
        refine W.seqJ (fun gs D=>∃ gl116 gx117,∃ gu119:Unit,gs=[(0,(gv (q10 gx17.toNat) 1)),(5,.int .i64 gx117)]∧D=Cls w [] [.obj b15 [.int .i64 x14.Item,(gv (q10 gx17.toNat) 0),(gv (q10 gx17.toNat) 1)] 65,.obj b1 [.int .i64 a1] 3,.sl (gv (q10 gx17.toNat) 1) 68 2 (gl116.map TL.row),.sl gv10 65 3 (zr TI.rowv gq12 gl11),.sl gv15 3 1 (gl16.map I),.sl v9 65 3 (zr TI.rowv q10 l8),.ss (zsd TI.sds q10 l8 ((gx17+1:Int).toNat)),.sl gv105 68 2 (gl106.map TL.row),.os gc9]∧FzA K gc9 (zs TI.sds gq12 gl11)∧M22K14 x14 gl11 gx17 go1 gl16 gl106 gl116 gx117=some r) ?_ ?_
        ·refine sr (L.r 1 rfl (L.m (V:=fun x87=>.int .i64 x87) h rfl (Y.addM rfl rfl) (fun x87 ex87 h=>(L.r 1 rfl (ln (W.block (W.loopJ (fun m gs D=>∃ gl122 gx123 gx124,∃ gu126:Unit,gs=[(0,(gv (q10 gx17.toNat) 1)),(1,.func (.func 51) #[] #[pt b1 0]),(5,.int .i64 gx123),(6,.int .i64 gx124)]∧D=Cls w [] [.obj b15 [.int .i64 x14.Item,(gv (q10 gx17.toNat) 0),(gv (q10 gx17.toNat) 1)] 65,.obj b1 [.int .i64 a1] 3,.sl (gv (q10 gx17.toNat) 1) 68 2 (gl122.map TL.row),.sl gv10 65 3 (zr TI.rowv gq12 gl11),.sl gv15 3 1 (gl16.map I),.sl v9 65 3 (zr TI.rowv q10 l8),.ss (zsd TI.sds q10 l8 ((gx17+1:Int).toNat)),.sl gv105 68 2 (gl106.map TL.row),.os gc9]∧FzA K gc9 (zs TI.sds gq12 gl11)∧M22L4 a1 x14 gl11 gx17 go1 gl16 gl106 m gl122 gx123 gx124=some r) ⟨x14.Queue,gx111,x87,(),rfl,rfl,hG114,h⟩ ⟨rfl,rfl,rfl,rfl,trivial⟩ hI ?_)))))))
         rintro m _ _ ⟨gl122,gx123,gx124,gu126,rfl,rfl,hG125,h⟩
         rcases m with _ | m
         ·rw [M22L4] at h;cases h
         rw [M22L4] at h
         generalize hg4:M22L4 a1 x14 gl11 gx17 go1 gl16 gl106 m=go4 at h
         rw [M22L4B] at h
         refine W.seqJ (fun gs D=>∃ gu128:Unit,gs=[(0,(gv (q10 gx17.toNat) 1)),(1,.func (.func 51) #[] #[pt b1 0]),(5,.int .i64 gx123),(6,.int .i64 gx124)]∧D=Cls w [] [.obj b15 [.int .i64 x14.Item,(gv (q10 gx17.toNat) 0),(gv (q10 gx17.toNat) 1)] 65,.obj b1 [.int .i64 a1] 3,.sl (gv (q10 gx17.toNat) 1) 68 2 (gl122.map TL.row),.sl gv10 65 3 (zr TI.rowv gq12 gl11),.sl gv15 3 1 (gl16.map I),.sl v9 65 3 (zr TI.rowv q10 l8),.ss (zsd TI.sds q10 l8 ((gx17+1:Int).toNat)),.sl gv105 68 2 (gl106.map TL.row),.os gc9]∧FzA K gc9 (zs TI.sds gq12 gl11)∧M22K15 gl122 gx124 a1 gx123 go4=some r) ?_ ?_
         ·refine sr (L.r 2 rfl (L.y rfl (Y.lenM (g:=TL.row) (l:=gl122) Tryz.underlying63 rfl (fun w hw=>As.at_ (hw.get (i:=2) rfl))) (L.ite h rfl (Y.lss rfl rfl) (fun c97 h=>?_) (fun c97 h=>?_))))
          ·exact ln (W.condT rfl (W.skip (E.jJ ⟨(),rfl,rfl,hG125,h⟩ hI)))
          exact ln (W.condF rfl (W.exit (E.KSX (E.KLX (E.blockX (E.jJ ⟨gl122,gx123,(),rfl,rfl,hG125,h⟩ hI))))))
         rintro _ _ ⟨gu128,rfl,rfl,hG127,h⟩
         rw [M22K15] at h
         refine W.seq (W.block (sr (L.r 2 rfl (L.m (V:=fun _=>el (gv (q10 gx17.toNat) 1) (gx124.toNat*2)) h rfl (Y.indexM (g:=TL.row) (l:=gl122) Tryz.underlying63 sz68 rfl rfl (fun w hw=>As.at_ (hw.get (i:=2) rfl))) (fun x88 ex88 h=>(L.y rfl (Y.loadEN (r:=[.int .i64 x88.Tx,.int .i64 x88.Mode]) ag68 sz68 rfl (fun w hw=>As.at_ (hw.get (i:=2) rfl)) (idx_map ex88) rfl) (L.alloc rfl ze68 ?_)))))))
         intro b89
         refine L.store (i:=0) (vs:=[.int .i64 x88.Tx,.int .i64 x88.Mode]) sz68 rfl rfl rfl rfl (by simp [Value.oneCell',Value.cells,st,pt,el]) rfl nb (nsr (L.r 1 rfl (L.y rfl (Y.loadPW (i:=0) ag68 sz68 rfl rfl rfl) (L.callVJ (fun v D=>∃ gu130:Unit,v=.bool (decide (x88.Tx=a1))∧D=Cls w [] [.obj b89 [.int .i64 x88.Tx,.int .i64 x88.Mode] 68,.obj b15 [.int .i64 x14.Item,(gv (q10 gx17.toNat) 0),(gv (q10 gx17.toNat) 1)] 65,.obj b1 [.int .i64 a1] 3,.sl (gv (q10 gx17.toNat) 1) 68 2 (gl122.map TL.row),.sl gv10 65 3 (zr TI.rowv gq12 gl11),.sl gv15 3 1 (gl16.map I),.sl v9 65 3 (zr TI.rowv q10 l8),.ss (zsd TI.sds q10 l8 ((gx17+1:Int).toNat)),.sl gv105 68 2 (gl106.map TL.row),.os gc9]∧FzA K gc9 (zs TI.sds gq12 gl11)∧M22K16 x88 a1 gl122 gx123 gx124 go4=some r) rfl en51 rfl rfl Tryz.func51 rfl rfl rfl ?_ ?_))))
         ·refine sr (L.box rfl rfl ?_)
          intro b96
          refine L.r 1 rfl (nsr (L.y rfl (Y.fieldP fd68_0 rfl) (L.y rfl (Y.loadP (i:=0) ag3 rfl rfl rfl) (L.y rfl (Y.loadP (i:=3) ag3 rfl rfl rfl) (L.y rfl (Y.eql rfl rfl) (L.r 1 rfl (ln (W.ret (E.ret1 rfl rfl (fun w1 hw=>?_))))))))))
          exact ⟨_,_,rfl,⟨(),rfl,rfl,hG127,h⟩,hw.s [1,2,3,4,5,6,7,8,9,10]⟩
         rintro _ _ ⟨gu130,rfl,rfl,hG129,h⟩
         rw [M22K16] at h
         refine L.iteB h rfl (Y.not rfl) (fun c90 h=>?_) (fun c90 h=>?_)
         ·refine ln (W.condT rfl (sr (L.r 2 rfl (L.y rfl (Y.loadPW (i:=0) ag68 sz68 rfl rfl rfl) (L.m (V:=fun _=>el (gv (q10 gx17.toNat) 1) (gx123.toNat*2)) h rfl (Y.indexM (g:=TL.row) (l:=gl122) Tryz.underlying63 sz68 rfl rfl (fun w hw=>As.at_ (hw.get (i:=3) rfl))) (fun x91 ex91 h=>(L.storeSlM (q:=3) (row:=TL.row) (vs:=[.int .i64 x88.Tx,.int .i64 x88.Mode]) (j:=0) (u1:=x88) h sz68 rfl rfl rfl rfl rfl (all1 rfl (all1 rfl all0)) rfl ex91 rfl rfl ?_)))))))
          intro l92 el92 h
          exact nr (L.r 1 rfl (L.m (V:=fun x93=>.int .i64 x93) h rfl (Y.addM rfl rfl) (fun x93 ex93 h=>(L.r 1 rfl (L.nil (E.blockN (E.thenN (W.region (L.r 1 rfl (L.m (V:=fun x94=>.int .i64 x94) h rfl (Y.addM rfl rfl) (fun x94 ex94 h=>(L.r 1 rfl (L.nil (E.aJ ⟨l92,x93,x94,(),rfl,rfl,hG129,by rw [hg4];exact h⟩ (sI [1,2,3,4,5,6,7,8,9])))))))))))))))
         exact ln (W.condF rfl (W.skip (E.blockN (E.thenN (W.region (L.r 1 rfl (L.m (V:=fun x95=>.int .i64 x95) h rfl (Y.addM rfl rfl) (fun x95 ex95 h=>(L.r 1 rfl (L.nil (E.aJ ⟨gl122,gx123,x95,(),rfl,rfl,hG129,by rw [hg4];exact h⟩ (sI [1,2,3,4,5,6,7,8,9]))))))))))))
        rintro _ _ ⟨gl116,gx117,gu119,rfl,rfl,hG118,h⟩
        rw [M22K14] at h
        refine sr (L.r 2 rfl (L.m (V:=fun _=>dropv (gv (q10 gx17.toNat) 1) gx117.toNat 2) h rfl (Y.dropM (g:=TL.row) Tryz.underlying63 sz68 rfl rfl (fun w hw=>As.at_ (hw.get (i:=2) rfl))) (fun l83 el83 h=>(L.clearM (i:=2) (g:=TL.row) (z0:=(⟨0,0⟩:TL)) (a:=gx117) h Tryz.underlying63 eL68 ze68 (fun u hu=>((plain_TLock _):Plain ([(⟨0,0⟩:TL)].map TL.row)) _ (List.mem_cons_self ..) u hu) rfl rfl ?_))))
        intro l84 el84 h
        refine nsr (L.r 2 rfl ?_)
        obtain ⟨l85,el85,h⟩:=bind1S h
        exact L.cutM (i:=2) (g:=TL.row) el85 rfl Tryz.underlying63 sz68 rfl rfl rfl (fun v86=>(L.r 1 rfl (ln (W.ret (E.ret1 rfl rfl (fun w1 hw=>(⟨_,_,rfl,⟨(),v86,l85,rfl,rfl,hG118,h⟩,hw.s [0,1,3,4,5,6,7,2,8]⟩)))))))
       rintro gv109 _ ⟨gu108,_,gl110,rfl,rfl,hG107,h⟩
       rw [M22K11] at h
       refine L.nil (E.toV2 (stC [] [] (Cls w [] [.obj b1 [.int .i64 a1] 3,.sl gv15 3 1 (gl16.map I),.sl v9 65 3 (zr TI.rowv q10 l8),.sl gv105 68 2 (gl106.map TL.row),.sl gv109 68 2 (gl110.map TL.row),.os gc9])) 7 (by kernel_rfl) (Sc.past rfl (Sc.stayD (sI [0,1,2,3,5]))) (Sc.atD (sI [1,3,4,6,7,8])) (V2.zz [] (Zc.fin hI) (fun hz81=>(V2.q 8 [] hz81 rfl rfl (Y.fieldP fd65_1 rfl) (V2.eff (i:=9) (by kernel_rfl) rfl (L.storeV (i:=0) sz63 rfl rfl (fun _ hw=>(As.at_ (hw.get (i:=6) rfl)).one) rfl nb (L.nil (E.toV2 (stC [] [] (Cls w [] [.obj b1 [.int .i64 a1] 3,.sl gv15 3 1 (gl16.map I),.sl v9 65 3 (zr TI.rowv q10 l8),.sl gv105 68 2 (gl106.map TL.row),.sl gv109 68 2 (gl110.map TL.row),.os gc9])) 9 (by kernel_rfl) (Sc.stayD hI) (Sc.atD (sI [1,3,4,6,7,8])) (V2.zz [] (Zc.fin hI) (fun hz82=>(V2.q 10 [] hz82 rfl rfl (Y.fieldP fd65_2 rfl) (V2.eff (i:=11) (by kernel_rfl) rfl (L.storeV (i:=0) sz63 rfl rfl (fun _ hw=>(As.at_ (hw.get (i:=7) rfl)).one) rfl nb (L.nil (E.toV2 (stC [] [] (Cls w [] [.obj b1 [.int .i64 a1] 3,.sl gv15 3 1 (gl16.map I),.sl v9 65 3 (zr TI.rowv q10 l8),.sl gv105 68 2 (gl106.map TL.row),.sl gv109 68 2 (gl110.map TL.row),.os gc9])) 11 (by kernel_rfl) (Sc.stayD hI) (Sc.atD (sI [1,3,4,6,7,8])) ?_)))))))))))))))
       exact V2.done (by kernel_rfl) (E.jJ ⟨(),gv105,gl106,gv109,gl110,rfl,rfl,hG107,h⟩ hI)
      refine L.y rfl (Y.loadP (i:=0) ag63 rfl rfl rfl) (L.nil (E.toV2 (stC [[3,7],[7]] [Cls w [] [.obj b15 [.int .i64 x14.Item,(gv (q10 gx17.toNat) 0),(gv (q10 gx17.toNat) 1)] 65,.sl (gv (q10 gx17.toNat) 0) 68 2 (x14.Held.map TL.row),.sl (gv (q10 gx17.toNat) 1) 68 2 (x14.Queue.map TL.row),.ss (zsd TI.sds q10 l8 ((gx17+1:Int).toNat)),.obj b1 [.int .i64 a1] 3,.sl gv10 65 3 (zr TI.rowv gq12 gl11),.sl gv15 3 1 (gl16.map I),.sl v9 65 3 (zr TI.rowv q10 l8),.os gc9],Cls w [] [.sl (gv (q10 gx17.toNat) 1) 68 2 (x14.Queue.map TL.row),.obj b1 [.int .i64 a1] 3,.sl gv15 3 1 (gl16.map I),.sl v9 65 3 (zr TI.rowv q10 l8),.os gc9]] (Cls w [] [.obj b1 [.int .i64 a1] 3,.sl gv15 3 1 (gl16.map I),.sl v9 65 3 (zr TI.rowv q10 l8),.os gc9])) 5 (by kernel_rfl) (Sc.stay hI (Sc.stay hI (Sc.stayD hI))) (Sc.now (by kernel_rfl) hI) (V2.eff (i:=3) (by kernel_rfl) rfl (L.callJ (fun v D=>∃ gu170:Unit,∃ gv171 gl172,v=gv171∧D=Cls w [] [.obj b15 [.int .i64 x14.Item,(gv (q10 gx17.toNat) 0),(gv (q10 gx17.toNat) 1)] 65,.obj b1 [.int .i64 a1] 3,.sl gv10 65 3 (zr TI.rowv gq12 gl11),.sl gv15 3 1 (gl16.map I),.sl v9 65 3 (zr TI.rowv q10 l8),.ss (zsd TI.sds q10 l8 ((gx17+1:Int).toNat)),.sl (gv (q10 gx17.toNat) 1) 68 2 (x14.Queue.map TL.row),.sl gv171 68 2 (gl172.map TL.row),.os gc9]∧FzA K gc9 (zs TI.sds gq12 gl11)∧M22K10 x14 a1 gl11 gx17 go1 gl16 gl172=some r) rfl en52 rfl Tryz.func52 rfl rfl rfl ?_ ?_))))
      ·refine sr (L.r 1 rfl (nsr (L.r 2 rfl (L.callJ (fun v D=>∃ gx206,∃ gu208:Unit,v=.int .i64 gx206∧D=Cls w [] [.obj b15 [.int .i64 x14.Item,(gv (q10 gx17.toNat) 0),(gv (q10 gx17.toNat) 1)] 65,.obj b1 [.int .i64 a1] 3,.sl (gv (q10 gx17.toNat) 0) 68 2 (x14.Held.map TL.row),.sl (gv (q10 gx17.toNat) 1) 68 2 (x14.Queue.map TL.row),.sl gv10 65 3 (zr TI.rowv gq12 gl11),.sl gv15 3 1 (gl16.map I),.sl v9 65 3 (zr TI.rowv q10 l8),.ss (zsd TI.sds q10 l8 ((gx17+1:Int).toNat)),.os gc9]∧FzA K gc9 (zs TI.sds gq12 gl11)∧M22K19 x14 a1 gl11 gx17 go1 gl16 gx206=some r) rfl en47 rfl Tryz.func47 rfl rfl rfl ?_ ?_))))
       ·refine sr (L.r 1 rfl (ln (W.seqJ (fun gs D=>∃ gu227:Unit,gs=[]∧D=Cls w [] [.obj b15 [.int .i64 x14.Item,(gv (q10 gx17.toNat) 0),(gv (q10 gx17.toNat) 1)] 65,.obj b1 [.int .i64 a1] 3,.sl (gv (q10 gx17.toNat) 0) 68 2 (x14.Held.map TL.row),.sl (gv (q10 gx17.toNat) 1) 68 2 (x14.Queue.map TL.row),.sl gv10 65 3 (zr TI.rowv gq12 gl11),.sl gv15 3 1 (gl16.map I),.sl v9 65 3 (zr TI.rowv q10 l8),.ss (zsd TI.sds q10 l8 ((gx17+1:Int).toNat)),.os gc9]∧FzA K gc9 (zs TI.sds gq12 gl11)∧M22K24 x14 a1 gl11 gx17 go1 gl16=some r) ?_ ?_)))
        ·refine sr (L.r 1 rfl (L.y rfl (Y.lenM (g:=TL.row) (l:=x14.Held) Tryz.underlying63 rfl (fun w hw=>As.at_ (hw.get (i:=1) rfl))) (L.r 1 rfl (ln (W.block (W.loopJ (fun m gs D=>∃ gx230,∃ gu232:Unit,gs=[(0,(gv (q10 gx17.toNat) 0)),(1,.func (.func 51) #[] #[pt b1 0]),(7,.int .i64 (x14.Held.length:Int)),(8,.int .i64 gx230)]∧D=Cls w [] [.obj b15 [.int .i64 x14.Item,(gv (q10 gx17.toNat) 0),(gv (q10 gx17.toNat) 1)] 65,.obj b1 [.int .i64 a1] 3,.sl (gv (q10 gx17.toNat) 0) 68 2 (x14.Held.map TL.row),.sl (gv (q10 gx17.toNat) 1) 68 2 (x14.Queue.map TL.row),.sl gv10 65 3 (zr TI.rowv gq12 gl11),.sl gv15 3 1 (gl16.map I),.sl v9 65 3 (zr TI.rowv q10 l8),.ss (zsd TI.sds q10 l8 ((gx17+1:Int).toNat)),.os gc9]∧FzA K gc9 (zs TI.sds gq12 gl11)∧M22L7 x14 a1 gl11 gx17 go1 gl16 m gx230=some r) ⟨0,(),rfl,rfl,hG13,h⟩ ⟨rfl,rfl,rfl,rfl,trivial⟩ (sI [0,4,1,2,5,6,7,3,8]) ?_))))))
         rintro m _ _ ⟨gx230,gu232,rfl,rfl,hG231,h⟩
         rcases m with _ | m
         ·rw [M22L7] at h;cases h
         rw [M22L7] at h
         generalize hg11:M22L7 x14 a1 gl11 gx17 go1 gl16 m=go11 at h
         rw [M22L7B] at h
         refine sr (L.ite h rfl (Y.lss rfl rfl) (fun c161 h=>?_) (fun c161 h=>?_))
         ·refine ln (W.seq (W.condT rfl (W.skip (E.thenN (W.seq (W.block (sr (L.r 2 rfl (ln (W.seq ?_))))))))))
          refine W.region (L.r 3 rfl (L.m (V:=fun _=>el (gv (q10 gx17.toNat) 0) (gx230.toNat*2)) h rfl (Y.indexM (g:=TL.row) (l:=x14.Held) Tryz.underlying63 sz68 rfl rfl (fun w hw=>As.at_ (hw.get (i:=2) rfl))) (fun x162 ex162 h=>(L.y rfl (Y.loadEN (r:=[.int .i64 x162.Tx,.int .i64 x162.Mode]) ag68 sz68 rfl (fun w hw=>As.at_ (hw.get (i:=2) rfl)) (idx_map ex162) rfl) (L.callVJ (fun v D=>∃ gu234:Unit,v=.bool (decide (x162.Tx=a1))∧D=Cls w [] [.obj b15 [.int .i64 x14.Item,(gv (q10 gx17.toNat) 0),(gv (q10 gx17.toNat) 1)] 65,.obj b1 [.int .i64 a1] 3,.sl (gv (q10 gx17.toNat) 0) 68 2 (x14.Held.map TL.row),.sl (gv (q10 gx17.toNat) 1) 68 2 (x14.Queue.map TL.row),.sl gv10 65 3 (zr TI.rowv gq12 gl11),.sl gv15 3 1 (gl16.map I),.sl v9 65 3 (zr TI.rowv q10 l8),.ss (zsd TI.sds q10 l8 ((gx17+1:Int).toNat)),.os gc9]∧FzA K gc9 (zs TI.sds gq12 gl11)∧M22K25 x162 a1 x14 gl11 gx17 go1 gl16 gx230 go11=some r) rfl en51 rfl rfl Tryz.func51 rfl rfl rfl ?_ ?_)))))
          ·refine sr (L.box rfl rfl ?_)
           intro b164
           refine L.r 1 rfl (nsr (L.y rfl (Y.fieldP fd68_0 rfl) (L.y rfl (Y.loadP (i:=0) ag3 rfl rfl rfl) (L.y rfl (Y.loadP (i:=2) ag3 rfl rfl rfl) (L.y rfl (Y.eql rfl rfl) (L.r 1 rfl (ln (W.ret (E.ret1 rfl rfl (fun w1 hw=>?_))))))))))
           exact ⟨_,_,rfl,⟨(),rfl,rfl,hG231,h⟩,hw.s [1,2,3,4,5,6,7,8,9]⟩
          rintro _ _ ⟨gu234,rfl,rfl,hG233,h⟩
          rw [M22K25] at h
          refine ln (W.caseB (q:=16) h rfl (fun h=>?_) (fun h=>?_))
          ·exact W.condT rfl (sr (L.r 2 rfl (ln (W.ret (E.blockR (E.thenR (E.KLR (E.blockR (E.KSR (E.ret1 rfl rfl (fun w1 hw=>(⟨_,_,rfl,⟨gx230,(),rfl,rfl,hG233,h⟩,hw⟩))))))))))))
          exact W.condF rfl (W.skip (E.blockN (E.thenN (W.region (L.m (V:=fun x163=>.int .i64 x163) h rfl (Y.addM rfl rfl) (fun x163 ex163 h=>(L.r 1 rfl (L.nil (E.aJ ⟨x163,(),rfl,rfl,hG233,by rw [hg11];exact h⟩ hI)))))))))
         exact ln (W.seq (W.condF rfl (W.exit (E.thenX (E.KLX (E.blockX (E.joinJ ⟨(),rfl,rfl,hG231,h⟩ trivial hI)))))))
        rintro _ _ ⟨gu227,rfl,rfl,hG226,h⟩
        rw [M22K24] at h
        exact sr (L.r 1 rfl (ln (W.ret (E.ret1 rfl rfl (fun w1 hw=>(⟨_,_,rfl,⟨(-1),(),rfl,rfl,hG226,h⟩,hw⟩))))))
       rintro _ _ ⟨gx206,gu208,rfl,rfl,hG207,h⟩
       rw [M22K19] at h
       refine L.r 1 rfl (ln (W.seqJ (fun gs D=>∃ gu210:Unit,gs=[(0,(gv (q10 gx17.toNat) 0)),(1,.func (.func 51) #[] #[pt b1 0]),(5,.int .i64 gx206)]∧D=Cls w [] [.obj b15 [.int .i64 x14.Item,(gv (q10 gx17.toNat) 0),(gv (q10 gx17.toNat) 1)] 65,.obj b1 [.int .i64 a1] 3,.sl (gv (q10 gx17.toNat) 0) 68 2 (x14.Held.map TL.row),.sl (gv (q10 gx17.toNat) 1) 68 2 (x14.Queue.map TL.row),.sl gv10 65 3 (zr TI.rowv gq12 gl11),.sl gv15 3 1 (gl16.map I),.sl v9 65 3 (zr TI.rowv q10 l8),.ss (zsd TI.sds q10 l8 ((gx17+1:Int).toNat)),.os gc9]∧FzA K gc9 (zs TI.sds gq12 gl11)∧M22K20 gx206 a1 x14 gl11 gx17 go1 gl16=some r) ?_ ?_))
       ·refine sr (L.r 1 rfl (L.ite h rfl (Y.eql rfl rfl) (fun c160 h=>?_) (fun c160 h=>?_)))
        ·exact ln (W.condT rfl (sr (L.r 2 rfl (ln (W.ret (E.KSR (E.ret1 rfl rfl (fun w1 hw=>(⟨_,_,rfl,⟨(),(gv (q10 gx17.toNat) 0),x14.Held,rfl,rfl,hG207,h⟩,hw.s [0,1,4,5,6,7,3,2,8]⟩)))))))))
        exact ln (W.condF rfl (W.skip (E.jJ ⟨(),rfl,rfl,hG207,h⟩ hI)))
       rintro _ _ ⟨gu210,rfl,rfl,hG209,h⟩
       rw [M22K20] at h
       refine W.seqJ (fun gs D=>∃ gl211 gx212,∃ gu214:Unit,gs=[(0,(gv (q10 gx17.toNat) 0)),(5,.int .i64 gx212)]∧D=Cls w [] [.obj b15 [.int .i64 x14.Item,(gv (q10 gx17.toNat) 0),(gv (q10 gx17.toNat) 1)] 65,.obj b1 [.int .i64 a1] 3,.sl (gv (q10 gx17.toNat) 0) 68 2 (gl211.map TL.row),.sl (gv (q10 gx17.toNat) 1) 68 2 (x14.Queue.map TL.row),.sl gv10 65 3 (zr TI.rowv gq12 gl11),.sl gv15 3 1 (gl16.map I),.sl v9 65 3 (zr TI.rowv q10 l8),.ss (zsd TI.sds q10 l8 ((gx17+1:Int).toNat)),.os gc9]∧FzA K gc9 (zs TI.sds gq12 gl11)∧M22K21 x14 a1 gl11 gx17 go1 gl16 gl211 gx212=some r) ?_ ?_
       ·refine sr (L.r 1 rfl (L.m (V:=fun x149=>.int .i64 x149) h rfl (Y.addM rfl rfl) (fun x149 ex149 h=>(L.r 1 rfl (ln (W.block (W.loopJ (fun m gs D=>∃ gl217 gx218 gx219,∃ gu221:Unit,gs=[(0,(gv (q10 gx17.toNat) 0)),(1,.func (.func 51) #[] #[pt b1 0]),(5,.int .i64 gx218),(6,.int .i64 gx219)]∧D=Cls w [] [.obj b15 [.int .i64 x14.Item,(gv (q10 gx17.toNat) 0),(gv (q10 gx17.toNat) 1)] 65,.obj b1 [.int .i64 a1] 3,.sl (gv (q10 gx17.toNat) 0) 68 2 (gl217.map TL.row),.sl (gv (q10 gx17.toNat) 1) 68 2 (x14.Queue.map TL.row),.sl gv10 65 3 (zr TI.rowv gq12 gl11),.sl gv15 3 1 (gl16.map I),.sl v9 65 3 (zr TI.rowv q10 l8),.ss (zsd TI.sds q10 l8 ((gx17+1:Int).toNat)),.os gc9]∧FzA K gc9 (zs TI.sds gq12 gl11)∧M22L6 a1 x14 gl11 gx17 go1 gl16 m gl217 gx218 gx219=some r) ⟨x14.Held,gx206,x149,(),rfl,rfl,hG209,h⟩ ⟨rfl,rfl,rfl,rfl,trivial⟩ hI ?_)))))))
        rintro m _ _ ⟨gl217,gx218,gx219,gu221,rfl,rfl,hG220,h⟩
        rcases m with _ | m
        ·rw [M22L6] at h;cases h
        rw [M22L6] at h
        generalize hg10:M22L6 a1 x14 gl11 gx17 go1 gl16 m=go10 at h
        rw [M22L6B] at h
        refine W.seqJ (fun gs D=>∃ gu223:Unit,gs=[(0,(gv (q10 gx17.toNat) 0)),(1,.func (.func 51) #[] #[pt b1 0]),(5,.int .i64 gx218),(6,.int .i64 gx219)]∧D=Cls w [] [.obj b15 [.int .i64 x14.Item,(gv (q10 gx17.toNat) 0),(gv (q10 gx17.toNat) 1)] 65,.obj b1 [.int .i64 a1] 3,.sl (gv (q10 gx17.toNat) 0) 68 2 (gl217.map TL.row),.sl (gv (q10 gx17.toNat) 1) 68 2 (x14.Queue.map TL.row),.sl gv10 65 3 (zr TI.rowv gq12 gl11),.sl gv15 3 1 (gl16.map I),.sl v9 65 3 (zr TI.rowv q10 l8),.ss (zsd TI.sds q10 l8 ((gx17+1:Int).toNat)),.os gc9]∧FzA K gc9 (zs TI.sds gq12 gl11)∧M22K22 gl217 gx219 a1 gx218 go10=some r) ?_ ?_
        ·refine sr (L.r 2 rfl (L.y rfl (Y.lenM (g:=TL.row) (l:=gl217) Tryz.underlying63 rfl (fun w hw=>As.at_ (hw.get (i:=2) rfl))) (L.ite h rfl (Y.lss rfl rfl) (fun c159 h=>?_) (fun c159 h=>?_))))
         ·exact ln (W.condT rfl (W.skip (E.jJ ⟨(),rfl,rfl,hG220,h⟩ hI)))
         exact ln (W.condF rfl (W.exit (E.KSX (E.KLX (E.blockX (E.jJ ⟨gl217,gx218,(),rfl,rfl,hG220,h⟩ hI))))))
        rintro _ _ ⟨gu223,rfl,rfl,hG222,h⟩
        rw [M22K22] at h
        refine W.seq (W.block (sr (L.r 2 rfl (L.m (V:=fun _=>el (gv (q10 gx17.toNat) 0) (gx219.toNat*2)) h rfl (Y.indexM (g:=TL.row) (l:=gl217) Tryz.underlying63 sz68 rfl rfl (fun w hw=>As.at_ (hw.get (i:=2) rfl))) (fun x150 ex150 h=>(L.y rfl (Y.loadEN (r:=[.int .i64 x150.Tx,.int .i64 x150.Mode]) ag68 sz68 rfl (fun w hw=>As.at_ (hw.get (i:=2) rfl)) (idx_map ex150) rfl) (L.alloc rfl ze68 ?_)))))))
        intro b151
        refine L.store (i:=0) (vs:=[.int .i64 x150.Tx,.int .i64 x150.Mode]) sz68 rfl rfl rfl rfl (by simp [Value.oneCell',Value.cells,st,pt,el]) rfl nb (nsr (L.r 1 rfl (L.y rfl (Y.loadPW (i:=0) ag68 sz68 rfl rfl rfl) (L.callVJ (fun v D=>∃ gu225:Unit,v=.bool (decide (x150.Tx=a1))∧D=Cls w [] [.obj b151 [.int .i64 x150.Tx,.int .i64 x150.Mode] 68,.obj b15 [.int .i64 x14.Item,(gv (q10 gx17.toNat) 0),(gv (q10 gx17.toNat) 1)] 65,.obj b1 [.int .i64 a1] 3,.sl (gv (q10 gx17.toNat) 0) 68 2 (gl217.map TL.row),.sl (gv (q10 gx17.toNat) 1) 68 2 (x14.Queue.map TL.row),.sl gv10 65 3 (zr TI.rowv gq12 gl11),.sl gv15 3 1 (gl16.map I),.sl v9 65 3 (zr TI.rowv q10 l8),.ss (zsd TI.sds q10 l8 ((gx17+1:Int).toNat)),.os gc9]∧FzA K gc9 (zs TI.sds gq12 gl11)∧M22K23 x150 a1 gl217 gx218 gx219 go10=some r) rfl en51 rfl rfl Tryz.func51 rfl rfl rfl ?_ ?_))))
        ·refine sr (L.box rfl rfl ?_)
         intro b158
         refine L.r 1 rfl (nsr (L.y rfl (Y.fieldP fd68_0 rfl) (L.y rfl (Y.loadP (i:=0) ag3 rfl rfl rfl) (L.y rfl (Y.loadP (i:=3) ag3 rfl rfl rfl) (L.y rfl (Y.eql rfl rfl) (L.r 1 rfl (ln (W.ret (E.ret1 rfl rfl (fun w1 hw=>?_))))))))))
         exact ⟨_,_,rfl,⟨(),rfl,rfl,hG222,h⟩,hw.s [1,2,3,4,5,6,7,8,9,10]⟩
        rintro _ _ ⟨gu225,rfl,rfl,hG224,h⟩
        rw [M22K23] at h
        refine L.iteB h rfl (Y.not rfl) (fun c152 h=>?_) (fun c152 h=>?_)
        ·refine ln (W.condT rfl (sr (L.r 2 rfl (L.y rfl (Y.loadPW (i:=0) ag68 sz68 rfl rfl rfl) (L.m (V:=fun _=>el (gv (q10 gx17.toNat) 0) (gx218.toNat*2)) h rfl (Y.indexM (g:=TL.row) (l:=gl217) Tryz.underlying63 sz68 rfl rfl (fun w hw=>As.at_ (hw.get (i:=3) rfl))) (fun x153 ex153 h=>(L.storeSlM (q:=3) (row:=TL.row) (vs:=[.int .i64 x150.Tx,.int .i64 x150.Mode]) (j:=0) (u1:=x150) h sz68 rfl rfl rfl rfl rfl (all1 rfl (all1 rfl all0)) rfl ex153 rfl rfl ?_)))))))
         intro l154 el154 h
         exact nr (L.r 1 rfl (L.m (V:=fun x155=>.int .i64 x155) h rfl (Y.addM rfl rfl) (fun x155 ex155 h=>(L.r 1 rfl (L.nil (E.blockN (E.thenN (W.region (L.r 1 rfl (L.m (V:=fun x156=>.int .i64 x156) h rfl (Y.addM rfl rfl) (fun x156 ex156 h=>(L.r 1 rfl (L.nil (E.aJ ⟨l154,x155,x156,(),rfl,rfl,hG224,by rw [hg10];exact h⟩ (sI [1,2,3,4,5,6,7,8,9])))))))))))))))
        exact ln (W.condF rfl (W.skip (E.blockN (E.thenN (W.region (L.r 1 rfl (L.m (V:=fun x157=>.int .i64 x157) h rfl (Y.addM rfl rfl) (fun x157 ex157 h=>(L.r 1 rfl (L.nil (E.aJ ⟨gl217,gx218,x157,(),rfl,rfl,hG224,by rw [hg10];exact h⟩ (sI [1,2,3,4,5,6,7,8,9]))))))))))))
       rintro _ _ ⟨gl211,gx212,gu214,rfl,rfl,hG213,h⟩
       rw [M22K21] at h
       refine sr (L.r 2 rfl (L.m (V:=fun _=>dropv (gv (q10 gx17.toNat) 0) gx212.toNat 2) h rfl (Y.dropM (g:=TL.row) Tryz.underlying63 sz68 rfl rfl (fun w hw=>As.at_ (hw.get (i:=2) rfl))) (fun l145 el145 h=>(L.clearM (i:=2) (g:=TL.row) (z0:=(⟨0,0⟩:TL)) (a:=gx212) h Tryz.underlying63 eL68 ze68 (fun u hu=>((plain_TLock _):Plain ([(⟨0,0⟩:TL)].map TL.row)) _ (List.mem_cons_self ..) u hu) rfl rfl ?_))))
       intro l146 el146 h
       refine nsr (L.r 2 rfl ?_)
       obtain ⟨l147,el147,h⟩:=bind1S h
       exact L.cutM (i:=2) (g:=TL.row) el147 rfl Tryz.underlying63 sz68 rfl rfl rfl (fun v148=>(L.r 1 rfl (ln (W.ret (E.ret1 rfl rfl (fun w1 hw=>(⟨_,_,rfl,⟨(),v148,l147,rfl,rfl,hG213,h⟩,hw.s [0,1,4,5,6,7,3,2,8]⟩)))))))
      rintro gv171 _ ⟨gu170,_,gl172,rfl,rfl,hG169,h⟩
      rw [M22K10] at h
      refine L.nil (E.toV2 (stC [[7]] [Cls w [] [.obj b1 [.int .i64 a1] 3,.sl gv15 3 1 (gl16.map I),.sl v9 65 3 (zr TI.rowv q10 l8),.sl (gv (q10 gx17.toNat) 1) 68 2 (x14.Queue.map TL.row),.sl gv171 68 2 (gl172.map TL.row),.os gc9]] (Cls w [] [.obj b1 [.int .i64 a1] 3,.sl gv15 3 1 (gl16.map I),.sl v9 65 3 (zr TI.rowv q10 l8),.sl gv171 68 2 (gl172.map TL.row),.os gc9])) 3 (by kernel_rfl) (Sc.past rfl (Sc.stay (sI [3,0,1,2,5]) (Sc.stayD (sI [0,1,2,4])))) (Sc.now (by kernel_rfl) (sI [1,3,4,6,7,8])) (V2.eff (i:=7) (by kernel_rfl) rfl (L.callJ (fun v D=>∃ gu174:Unit,∃ gv175 gl176,v=gv175∧D=Cls w [] [.obj b15 [.int .i64 x14.Item,(gv (q10 gx17.toNat) 0),(gv (q10 gx17.toNat) 1)] 65,.obj b1 [.int .i64 a1] 3,.sl gv10 65 3 (zr TI.rowv gq12 gl11),.sl gv15 3 1 (gl16.map I),.sl v9 65 3 (zr TI.rowv q10 l8),.ss (zsd TI.sds q10 l8 ((gx17+1:Int).toNat)),.sl gv171 68 2 (gl172.map TL.row),.sl gv175 68 2 (gl176.map TL.row),.os gc9]∧FzA K gc9 (zs TI.sds gq12 gl11)∧M22K11 x14 gl11 gx17 go1 gl16 gl172 gl176=some r) rfl en52 rfl Tryz.func52 rfl rfl rfl ?_ ?_)))
      ·refine sr (L.r 1 rfl (nsr (L.r 2 rfl (L.callJ (fun v D=>∃ gx177,∃ gu179:Unit,v=.int .i64 gx177∧D=Cls w [] [.obj b15 [.int .i64 x14.Item,(gv (q10 gx17.toNat) 0),(gv (q10 gx17.toNat) 1)] 65,.obj b1 [.int .i64 a1] 3,.sl (gv (q10 gx17.toNat) 1) 68 2 (x14.Queue.map TL.row),.sl gv10 65 3 (zr TI.rowv gq12 gl11),.sl gv15 3 1 (gl16.map I),.sl v9 65 3 (zr TI.rowv q10 l8),.ss (zsd TI.sds q10 l8 ((gx17+1:Int).toNat)),.sl gv171 68 2 (gl172.map TL.row),.os gc9]∧FzA K gc9 (zs TI.sds gq12 gl11)∧M22K12 x14 gl11 gx17 go1 gl16 gl172 a1 gx177=some r) rfl en47 rfl Tryz.func47 rfl rfl rfl ?_ ?_))))
       ·refine sr (L.r 1 rfl (ln (W.seqJ (fun gs D=>∃ gu198:Unit,gs=[]∧D=Cls w [] [.obj b15 [.int .i64 x14.Item,(gv (q10 gx17.toNat) 0),(gv (q10 gx17.toNat) 1)] 65,.obj b1 [.int .i64 a1] 3,.sl (gv (q10 gx17.toNat) 1) 68 2 (x14.Queue.map TL.row),.sl gv10 65 3 (zr TI.rowv gq12 gl11),.sl gv15 3 1 (gl16.map I),.sl v9 65 3 (zr TI.rowv q10 l8),.ss (zsd TI.sds q10 l8 ((gx17+1:Int).toNat)),.sl gv171 68 2 (gl172.map TL.row),.os gc9]∧FzA K gc9 (zs TI.sds gq12 gl11)∧M22K17 x14 gl11 gx17 go1 gl16 gl172 a1=some r) ?_ ?_)))
        ·refine sr (L.r 1 rfl (L.y rfl (Y.lenM (g:=TL.row) (l:=x14.Queue) Tryz.underlying63 rfl (fun w hw=>As.at_ (hw.get (i:=6) rfl))) (L.r 1 rfl (ln (W.block (W.loopJ (fun m gs D=>∃ gx201,∃ gu203:Unit,gs=[(0,(gv (q10 gx17.toNat) 1)),(1,.func (.func 51) #[] #[pt b1 0]),(7,.int .i64 (x14.Queue.length:Int)),(8,.int .i64 gx201)]∧D=Cls w [] [.obj b15 [.int .i64 x14.Item,(gv (q10 gx17.toNat) 0),(gv (q10 gx17.toNat) 1)] 65,.obj b1 [.int .i64 a1] 3,.sl (gv (q10 gx17.toNat) 1) 68 2 (x14.Queue.map TL.row),.sl gv10 65 3 (zr TI.rowv gq12 gl11),.sl gv15 3 1 (gl16.map I),.sl v9 65 3 (zr TI.rowv q10 l8),.ss (zsd TI.sds q10 l8 ((gx17+1:Int).toNat)),.sl gv171 68 2 (gl172.map TL.row),.os gc9]∧FzA K gc9 (zs TI.sds gq12 gl11)∧M22L5 x14 a1 gl11 gx17 go1 gl16 gl172 m gx201=some r) ⟨0,(),rfl,rfl,hG169,h⟩ ⟨rfl,rfl,rfl,rfl,trivial⟩ (sI [0,1,6,2,3,4,5,7,8]) ?_))))))
         rintro m _ _ ⟨gx201,gu203,rfl,rfl,hG202,h⟩
         rcases m with _ | m
         ·rw [M22L5] at h;cases h
         rw [M22L5] at h
         generalize hg9:M22L5 x14 a1 gl11 gx17 go1 gl16 gl172 m=go9 at h
         rw [M22L5B] at h
         refine sr (L.ite h rfl (Y.lss rfl rfl) (fun c141 h=>?_) (fun c141 h=>?_))
         ·refine ln (W.seq (W.condT rfl (W.skip (E.thenN (W.seq (W.block (sr (L.r 2 rfl (ln (W.seq ?_))))))))))
          refine W.region (L.r 3 rfl (L.m (V:=fun _=>el (gv (q10 gx17.toNat) 1) (gx201.toNat*2)) h rfl (Y.indexM (g:=TL.row) (l:=x14.Queue) Tryz.underlying63 sz68 rfl rfl (fun w hw=>As.at_ (hw.get (i:=2) rfl))) (fun x142 ex142 h=>(L.y rfl (Y.loadEN (r:=[.int .i64 x142.Tx,.int .i64 x142.Mode]) ag68 sz68 rfl (fun w hw=>As.at_ (hw.get (i:=2) rfl)) (idx_map ex142) rfl) (L.callVJ (fun v D=>∃ gu205:Unit,v=.bool (decide (x142.Tx=a1))∧D=Cls w [] [.obj b15 [.int .i64 x14.Item,(gv (q10 gx17.toNat) 0),(gv (q10 gx17.toNat) 1)] 65,.obj b1 [.int .i64 a1] 3,.sl (gv (q10 gx17.toNat) 1) 68 2 (x14.Queue.map TL.row),.sl gv10 65 3 (zr TI.rowv gq12 gl11),.sl gv15 3 1 (gl16.map I),.sl v9 65 3 (zr TI.rowv q10 l8),.ss (zsd TI.sds q10 l8 ((gx17+1:Int).toNat)),.sl gv171 68 2 (gl172.map TL.row),.os gc9]∧FzA K gc9 (zs TI.sds gq12 gl11)∧M22K18 x142 a1 x14 gl11 gx17 go1 gl16 gl172 gx201 go9=some r) rfl en51 rfl rfl Tryz.func51 rfl rfl rfl ?_ ?_)))))
          ·refine sr (L.box rfl rfl ?_)
           intro b144
           refine L.r 1 rfl (nsr (L.y rfl (Y.fieldP fd68_0 rfl) (L.y rfl (Y.loadP (i:=0) ag3 rfl rfl rfl) (L.y rfl (Y.loadP (i:=2) ag3 rfl rfl rfl) (L.y rfl (Y.eql rfl rfl) (L.r 1 rfl (ln (W.ret (E.ret1 rfl rfl (fun w1 hw=>?_))))))))))
           exact ⟨_,_,rfl,⟨(),rfl,rfl,hG202,h⟩,hw.s [1,2,3,4,5,6,7,8,9]⟩
          rintro _ _ ⟨gu205,rfl,rfl,hG204,h⟩
          rw [M22K18] at h
          refine ln (W.caseB (q:=16) h rfl (fun h=>?_) (fun h=>?_))
          ·exact W.condT rfl (sr (L.r 2 rfl (ln (W.ret (E.blockR (E.thenR (E.KLR (E.blockR (E.KSR (E.ret1 rfl rfl (fun w1 hw=>(⟨_,_,rfl,⟨gx201,(),rfl,rfl,hG204,h⟩,hw⟩))))))))))))
          exact W.condF rfl (W.skip (E.blockN (E.thenN (W.region (L.m (V:=fun x143=>.int .i64 x143) h rfl (Y.addM rfl rfl) (fun x143 ex143 h=>(L.r 1 rfl (L.nil (E.aJ ⟨x143,(),rfl,rfl,hG204,by rw [hg9];exact h⟩ hI)))))))))
         exact ln (W.seq (W.condF rfl (W.exit (E.thenX (E.KLX (E.blockX (E.joinJ ⟨(),rfl,rfl,hG202,h⟩ trivial hI)))))))
        rintro _ _ ⟨gu198,rfl,rfl,hG197,h⟩
        rw [M22K17] at h
        exact sr (L.r 1 rfl (ln (W.ret (E.ret1 rfl rfl (fun w1 hw=>(⟨_,_,rfl,⟨(-1),(),rfl,rfl,hG197,h⟩,hw⟩))))))
       rintro _ _ ⟨gx177,gu179,rfl,rfl,hG178,h⟩
       rw [M22K12] at h
       refine L.r 1 rfl (ln (W.seqJ (fun gs D=>∃ gu181:Unit,gs=[(0,(gv (q10 gx17.toNat) 1)),(1,.func (.func 51) #[] #[pt b1 0]),(5,.int .i64 gx177)]∧D=Cls w [] [.obj b15 [.int .i64 x14.Item,(gv (q10 gx17.toNat) 0),(gv (q10 gx17.toNat) 1)] 65,.obj b1 [.int .i64 a1] 3,.sl (gv (q10 gx17.toNat) 1) 68 2 (x14.Queue.map TL.row),.sl gv10 65 3 (zr TI.rowv gq12 gl11),.sl gv15 3 1 (gl16.map I),.sl v9 65 3 (zr TI.rowv q10 l8),.ss (zsd TI.sds q10 l8 ((gx17+1:Int).toNat)),.sl gv171 68 2 (gl172.map TL.row),.os gc9]∧FzA K gc9 (zs TI.sds gq12 gl11)∧M22K13 gx177 a1 x14 gl11 gx17 go1 gl16 gl172=some r) ?_ ?_))
       ·refine sr (L.r 1 rfl (L.ite h rfl (Y.eql rfl rfl) (fun c140 h=>?_) (fun c140 h=>?_)))
        ·exact ln (W.condT rfl (sr (L.r 2 rfl (ln (W.ret (E.KSR (E.ret1 rfl rfl (fun w1 hw=>(⟨_,_,rfl,⟨(),(gv (q10 gx17.toNat) 1),x14.Queue,rfl,rfl,hG178,h⟩,hw.s [0,1,3,4,5,6,7,2,8]⟩)))))))))
        exact ln (W.condF rfl (W.skip (E.jJ ⟨(),rfl,rfl,hG178,h⟩ hI)))
       rintro _ _ ⟨gu181,rfl,rfl,hG180,h⟩
       rw [M22K13] at h
       refine W.seqJ (fun gs D=>∃ gl182 gx183,∃ gu185:Unit,gs=[(0,(gv (q10 gx17.toNat) 1)),(5,.int .i64 gx183)]∧D=Cls w [] [.obj b15 [.int .i64 x14.Item,(gv (q10 gx17.toNat) 0),(gv (q10 gx17.toNat) 1)] 65,.obj b1 [.int .i64 a1] 3,.sl (gv (q10 gx17.toNat) 1) 68 2 (gl182.map TL.row),.sl gv10 65 3 (zr TI.rowv gq12 gl11),.sl gv15 3 1 (gl16.map I),.sl v9 65 3 (zr TI.rowv q10 l8),.ss (zsd TI.sds q10 l8 ((gx17+1:Int).toNat)),.sl gv171 68 2 (gl172.map TL.row),.os gc9]∧FzA K gc9 (zs TI.sds gq12 gl11)∧M22K14 x14 gl11 gx17 go1 gl16 gl172 gl182 gx183=some r) ?_ ?_
       ·refine sr (L.r 1 rfl (L.m (V:=fun x129=>.int .i64 x129) h rfl (Y.addM rfl rfl) (fun x129 ex129 h=>(L.r 1 rfl (ln (W.block (W.loopJ (fun m gs D=>∃ gl188 gx189 gx190,∃ gu192:Unit,gs=[(0,(gv (q10 gx17.toNat) 1)),(1,.func (.func 51) #[] #[pt b1 0]),(5,.int .i64 gx189),(6,.int .i64 gx190)]∧D=Cls w [] [.obj b15 [.int .i64 x14.Item,(gv (q10 gx17.toNat) 0),(gv (q10 gx17.toNat) 1)] 65,.obj b1 [.int .i64 a1] 3,.sl (gv (q10 gx17.toNat) 1) 68 2 (gl188.map TL.row),.sl gv10 65 3 (zr TI.rowv gq12 gl11),.sl gv15 3 1 (gl16.map I),.sl v9 65 3 (zr TI.rowv q10 l8),.ss (zsd TI.sds q10 l8 ((gx17+1:Int).toNat)),.sl gv171 68 2 (gl172.map TL.row),.os gc9]∧FzA K gc9 (zs TI.sds gq12 gl11)∧M22L4 a1 x14 gl11 gx17 go1 gl16 gl172 m gl188 gx189 gx190=some r) ⟨x14.Queue,gx177,x129,(),rfl,rfl,hG180,h⟩ ⟨rfl,rfl,rfl,rfl,trivial⟩ hI ?_)))))))
        rintro m _ _ ⟨gl188,gx189,gx190,gu192,rfl,rfl,hG191,h⟩
        rcases m with _ | m
        ·rw [M22L4] at h;cases h
        rw [M22L4] at h
        generalize hg8:M22L4 a1 x14 gl11 gx17 go1 gl16 gl172 m=go8 at h
        rw [M22L4B] at h
        refine W.seqJ (fun gs D=>∃ gu194:Unit,gs=[(0,(gv (q10 gx17.toNat) 1)),(1,.func (.func 51) #[] #[pt b1 0]),(5,.int .i64 gx189),(6,.int .i64 gx190)]∧D=Cls w [] [.obj b15 [.int .i64 x14.Item,(gv (q10 gx17.toNat) 0),(gv (q10 gx17.toNat) 1)] 65,.obj b1 [.int .i64 a1] 3,.sl (gv (q10 gx17.toNat) 1) 68 2 (gl188.map TL.row),.sl gv10 65 3 (zr TI.rowv gq12 gl11),.sl gv15 3 1 (gl16.map I),.sl v9 65 3 (zr TI.rowv q10 l8),.ss (zsd TI.sds q10 l8 ((gx17+1:Int).toNat)),.sl gv171 68 2 (gl172.map TL.row),.os gc9]∧FzA K gc9 (zs TI.sds gq12 gl11)∧M22K15 gl188 gx190 a1 gx189 go8=some r) ?_ ?_
        ·refine sr (L.r 2 rfl (L.y rfl (Y.lenM (g:=TL.row) (l:=gl188) Tryz.underlying63 rfl (fun w hw=>As.at_ (hw.get (i:=2) rfl))) (L.ite h rfl (Y.lss rfl rfl) (fun c139 h=>?_) (fun c139 h=>?_))))
         ·exact ln (W.condT rfl (W.skip (E.jJ ⟨(),rfl,rfl,hG191,h⟩ hI)))
         exact ln (W.condF rfl (W.exit (E.KSX (E.KLX (E.blockX (E.jJ ⟨gl188,gx189,(),rfl,rfl,hG191,h⟩ hI))))))
        rintro _ _ ⟨gu194,rfl,rfl,hG193,h⟩
        rw [M22K15] at h
        refine W.seq (W.block (sr (L.r 2 rfl (L.m (V:=fun _=>el (gv (q10 gx17.toNat) 1) (gx190.toNat*2)) h rfl (Y.indexM (g:=TL.row) (l:=gl188) Tryz.underlying63 sz68 rfl rfl (fun w hw=>As.at_ (hw.get (i:=2) rfl))) (fun x130 ex130 h=>(L.y rfl (Y.loadEN (r:=[.int .i64 x130.Tx,.int .i64 x130.Mode]) ag68 sz68 rfl (fun w hw=>As.at_ (hw.get (i:=2) rfl)) (idx_map ex130) rfl) (L.alloc rfl ze68 ?_)))))))
        intro b131
        refine L.store (i:=0) (vs:=[.int .i64 x130.Tx,.int .i64 x130.Mode]) sz68 rfl rfl rfl rfl (by simp [Value.oneCell',Value.cells,st,pt,el]) rfl nb (nsr (L.r 1 rfl (L.y rfl (Y.loadPW (i:=0) ag68 sz68 rfl rfl rfl) (L.callVJ (fun v D=>∃ gu196:Unit,v=.bool (decide (x130.Tx=a1))∧D=Cls w [] [.obj b131 [.int .i64 x130.Tx,.int .i64 x130.Mode] 68,.obj b15 [.int .i64 x14.Item,(gv (q10 gx17.toNat) 0),(gv (q10 gx17.toNat) 1)] 65,.obj b1 [.int .i64 a1] 3,.sl (gv (q10 gx17.toNat) 1) 68 2 (gl188.map TL.row),.sl gv10 65 3 (zr TI.rowv gq12 gl11),.sl gv15 3 1 (gl16.map I),.sl v9 65 3 (zr TI.rowv q10 l8),.ss (zsd TI.sds q10 l8 ((gx17+1:Int).toNat)),.sl gv171 68 2 (gl172.map TL.row),.os gc9]∧FzA K gc9 (zs TI.sds gq12 gl11)∧M22K16 x130 a1 gl188 gx189 gx190 go8=some r) rfl en51 rfl rfl Tryz.func51 rfl rfl rfl ?_ ?_))))
        ·refine sr (L.box rfl rfl ?_)
         intro b138
         refine L.r 1 rfl (nsr (L.y rfl (Y.fieldP fd68_0 rfl) (L.y rfl (Y.loadP (i:=0) ag3 rfl rfl rfl) (L.y rfl (Y.loadP (i:=3) ag3 rfl rfl rfl) (L.y rfl (Y.eql rfl rfl) (L.r 1 rfl (ln (W.ret (E.ret1 rfl rfl (fun w1 hw=>?_))))))))))
         exact ⟨_,_,rfl,⟨(),rfl,rfl,hG193,h⟩,hw.s [1,2,3,4,5,6,7,8,9,10]⟩
        rintro _ _ ⟨gu196,rfl,rfl,hG195,h⟩
        rw [M22K16] at h
        refine L.iteB h rfl (Y.not rfl) (fun c132 h=>?_) (fun c132 h=>?_)
        ·refine ln (W.condT rfl (sr (L.r 2 rfl (L.y rfl (Y.loadPW (i:=0) ag68 sz68 rfl rfl rfl) (L.m (V:=fun _=>el (gv (q10 gx17.toNat) 1) (gx189.toNat*2)) h rfl (Y.indexM (g:=TL.row) (l:=gl188) Tryz.underlying63 sz68 rfl rfl (fun w hw=>As.at_ (hw.get (i:=3) rfl))) (fun x133 ex133 h=>(L.storeSlM (q:=3) (row:=TL.row) (vs:=[.int .i64 x130.Tx,.int .i64 x130.Mode]) (j:=0) (u1:=x130) h sz68 rfl rfl rfl rfl rfl (all1 rfl (all1 rfl all0)) rfl ex133 rfl rfl ?_)))))))
         intro l134 el134 h
         exact nr (L.r 1 rfl (L.m (V:=fun x135=>.int .i64 x135) h rfl (Y.addM rfl rfl) (fun x135 ex135 h=>(L.r 1 rfl (L.nil (E.blockN (E.thenN (W.region (L.r 1 rfl (L.m (V:=fun x136=>.int .i64 x136) h rfl (Y.addM rfl rfl) (fun x136 ex136 h=>(L.r 1 rfl (L.nil (E.aJ ⟨l134,x135,x136,(),rfl,rfl,hG195,by rw [hg8];exact h⟩ (sI [1,2,3,4,5,6,7,8,9])))))))))))))))
        exact ln (W.condF rfl (W.skip (E.blockN (E.thenN (W.region (L.r 1 rfl (L.m (V:=fun x137=>.int .i64 x137) h rfl (Y.addM rfl rfl) (fun x137 ex137 h=>(L.r 1 rfl (L.nil (E.aJ ⟨gl188,gx189,x137,(),rfl,rfl,hG195,by rw [hg8];exact h⟩ (sI [1,2,3,4,5,6,7,8,9]))))))))))))
       rintro _ _ ⟨gl182,gx183,gu185,rfl,rfl,hG184,h⟩
       rw [M22K14] at h
       refine sr (L.r 2 rfl (L.m (V:=fun _=>dropv (gv (q10 gx17.toNat) 1) gx183.toNat 2) h rfl (Y.dropM (g:=TL.row) Tryz.underlying63 sz68 rfl rfl (fun w hw=>As.at_ (hw.get (i:=2) rfl))) (fun l125 el125 h=>(L.clearM (i:=2) (g:=TL.row) (z0:=(⟨0,0⟩:TL)) (a:=gx183) h Tryz.underlying63 eL68 ze68 (fun u hu=>((plain_TLock _):Plain ([(⟨0,0⟩:TL)].map TL.row)) _ (List.mem_cons_self ..) u hu) rfl rfl ?_))))
       intro l126 el126 h
       refine nsr (L.r 2 rfl ?_)
       obtain ⟨l127,el127,h⟩:=bind1S h
       exact L.cutM (i:=2) (g:=TL.row) el127 rfl Tryz.underlying63 sz68 rfl rfl rfl (fun v128=>(L.r 1 rfl (ln (W.ret (E.ret1 rfl rfl (fun w1 hw=>(⟨_,_,rfl,⟨(),v128,l127,rfl,rfl,hG184,h⟩,hw.s [0,1,3,4,5,6,7,2,8]⟩)))))))
      rintro gv175 _ ⟨gu174,_,gl176,rfl,rfl,hG173,h⟩
      rw [M22K11] at h
      refine L.nil (E.toV2 (stC [] [] (Cls w [] [.obj b1 [.int .i64 a1] 3,.sl gv15 3 1 (gl16.map I),.sl v9 65 3 (zr TI.rowv q10 l8),.sl gv171 68 2 (gl172.map TL.row),.sl gv175 68 2 (gl176.map TL.row),.os gc9])) 7 (by kernel_rfl) (Sc.past rfl (Sc.stayD (sI [0,1,2,3,5]))) (Sc.atD (sI [1,3,4,6,7,8])) (V2.zz [] (Zc.fin hI) (fun hz123=>(V2.q 8 [] hz123 rfl rfl (Y.fieldP fd65_1 rfl) (V2.eff (i:=9) (by kernel_rfl) rfl (L.storeV (i:=0) sz63 rfl rfl (fun _ hw=>(As.at_ (hw.get (i:=6) rfl)).one) rfl nb (L.nil (E.toV2 (stC [] [] (Cls w [] [.obj b1 [.int .i64 a1] 3,.sl gv15 3 1 (gl16.map I),.sl v9 65 3 (zr TI.rowv q10 l8),.sl gv171 68 2 (gl172.map TL.row),.sl gv175 68 2 (gl176.map TL.row),.os gc9])) 9 (by kernel_rfl) (Sc.stayD hI) (Sc.atD (sI [1,3,4,6,7,8])) (V2.zz [] (Zc.fin hI) (fun hz124=>(V2.q 10 [] hz124 rfl rfl (Y.fieldP fd65_2 rfl) (V2.eff (i:=11) (by kernel_rfl) rfl (L.storeV (i:=0) sz63 rfl rfl (fun _ hw=>(As.at_ (hw.get (i:=7) rfl)).one) rfl nb (L.nil (E.toV2 (stC [] [] (Cls w [] [.obj b1 [.int .i64 a1] 3,.sl gv15 3 1 (gl16.map I),.sl v9 65 3 (zr TI.rowv q10 l8),.sl gv171 68 2 (gl172.map TL.row),.sl gv175 68 2 (gl176.map TL.row),.os gc9])) 11 (by kernel_rfl) (Sc.stayD hI) (Sc.atD (sI [1,3,4,6,7,8])) ?_)))))))))))))))
      exact V2.done (by kernel_rfl) (E.jJ ⟨(),gv171,gl172,gv175,gl176,rfl,rfl,hG173,h⟩ hI)
     refine L.y rfl (Y.loadP (i:=0) ag63 rfl rfl rfl) (L.nil (E.toV2 (stC [[3,7],[7]] [Cls w [] [.obj b15 [.int .i64 x14.Item,(gv (q10 gx17.toNat) 0),(gv (q10 gx17.toNat) 1)] 65,.sl (gv (q10 gx17.toNat) 0) 68 2 (x14.Held.map TL.row),.sl (gv (q10 gx17.toNat) 1) 68 2 (x14.Queue.map TL.row),.ss (zsd TI.sds q10 l8 ((gx17+1:Int).toNat)),.obj b1 [.int .i64 a1] 3,.sl gv10 65 3 (zr TI.rowv gq12 gl11),.sl gv15 3 1 (gl16.map I),.sl v9 65 3 (zr TI.rowv q10 l8),.os gc9],Cls w [] [.sl (gv (q10 gx17.toNat) 1) 68 2 (x14.Queue.map TL.row),.obj b1 [.int .i64 a1] 3,.sl gv15 3 1 (gl16.map I),.sl v9 65 3 (zr TI.rowv q10 l8),.os gc9]] (Cls w [] [.obj b1 [.int .i64 a1] 3,.sl gv15 3 1 (gl16.map I),.sl v9 65 3 (zr TI.rowv q10 l8),.os gc9])) 5 (by kernel_rfl) (Sc.stay hI (Sc.stay hI (Sc.stayD hI))) (Sc.now (by kernel_rfl) hI) (V2.eff (i:=1) (by kernel_rfl) rfl (L.y rfl (Y.loadP (i:=0) ag63 rfl rfl rfl) (L.nil (E.toV2 (stC [[3,7],[7]] [Cls w [] [.obj b15 [.int .i64 x14.Item,(gv (q10 gx17.toNat) 0),(gv (q10 gx17.toNat) 1)] 65,.sl (gv (q10 gx17.toNat) 0) 68 2 (x14.Held.map TL.row),.sl (gv (q10 gx17.toNat) 1) 68 2 (x14.Queue.map TL.row),.ss (zsd TI.sds q10 l8 ((gx17+1:Int).toNat)),.obj b1 [.int .i64 a1] 3,.sl gv10 65 3 (zr TI.rowv gq12 gl11),.sl gv15 3 1 (gl16.map I),.sl v9 65 3 (zr TI.rowv q10 l8),.os gc9],Cls w [] [.sl (gv (q10 gx17.toNat) 1) 68 2 (x14.Queue.map TL.row),.obj b1 [.int .i64 a1] 3,.sl gv15 3 1 (gl16.map I),.sl v9 65 3 (zr TI.rowv q10 l8),.os gc9]] (Cls w [] [.obj b1 [.int .i64 a1] 3,.sl gv15 3 1 (gl16.map I),.sl v9 65 3 (zr TI.rowv q10 l8),.os gc9])) 1 (by kernel_rfl) (Sc.stay hI (Sc.stay hI (Sc.stayD hI))) (Sc.now (by kernel_rfl) hI) (V2.eff (i:=3) (by kernel_rfl) rfl (L.callJ (fun v D=>∃ gu236:Unit,∃ gv237 gl238,v=gv237∧D=Cls w [] [.obj b15 [.int .i64 x14.Item,(gv (q10 gx17.toNat) 0),(gv (q10 gx17.toNat) 1)] 65,.obj b1 [.int .i64 a1] 3,.sl gv10 65 3 (zr TI.rowv gq12 gl11),.sl gv15 3 1 (gl16.map I),.sl v9 65 3 (zr TI.rowv q10 l8),.ss (zsd TI.sds q10 l8 ((gx17+1:Int).toNat)),.sl (gv (q10 gx17.toNat) 1) 68 2 (x14.Queue.map TL.row),.sl gv237 68 2 (gl238.map TL.row),.os gc9]∧FzA K gc9 (zs TI.sds gq12 gl11)∧M22K10 x14 a1 gl11 gx17 go1 gl16 gl238=some r) rfl en52 rfl Tryz.func52 rfl rfl rfl ?_ ?_))))))))
     ·refine sr (L.r 1 rfl (nsr (L.r 2 rfl (L.callJ (fun v D=>∃ gx272,∃ gu274:Unit,v=.int .i64 gx272∧D=Cls w [] [.obj b15 [.int .i64 x14.Item,(gv (q10 gx17.toNat) 0),(gv (q10 gx17.toNat) 1)] 65,.obj b1 [.int .i64 a1] 3,.sl (gv (q10 gx17.toNat) 0) 68 2 (x14.Held.map TL.row),.sl (gv (q10 gx17.toNat) 1) 68 2 (x14.Queue.map TL.row),.sl gv10 65 3 (zr TI.rowv gq12 gl11),.sl gv15 3 1 (gl16.map I),.sl v9 65 3 (zr TI.rowv q10 l8),.ss (zsd TI.sds q10 l8 ((gx17+1:Int).toNat)),.os gc9]∧FzA K gc9 (zs TI.sds gq12 gl11)∧M22K19 x14 a1 gl11 gx17 go1 gl16 gx272=some r) rfl en47 rfl Tryz.func47 rfl rfl rfl ?_ ?_))))
      ·refine sr (L.r 1 rfl (ln (W.seqJ (fun gs D=>∃ gu293:Unit,gs=[]∧D=Cls w [] [.obj b15 [.int .i64 x14.Item,(gv (q10 gx17.toNat) 0),(gv (q10 gx17.toNat) 1)] 65,.obj b1 [.int .i64 a1] 3,.sl (gv (q10 gx17.toNat) 0) 68 2 (x14.Held.map TL.row),.sl (gv (q10 gx17.toNat) 1) 68 2 (x14.Queue.map TL.row),.sl gv10 65 3 (zr TI.rowv gq12 gl11),.sl gv15 3 1 (gl16.map I),.sl v9 65 3 (zr TI.rowv q10 l8),.ss (zsd TI.sds q10 l8 ((gx17+1:Int).toNat)),.os gc9]∧FzA K gc9 (zs TI.sds gq12 gl11)∧M22K24 x14 a1 gl11 gx17 go1 gl16=some r) ?_ ?_)))
       ·refine sr (L.r 1 rfl (L.y rfl (Y.lenM (g:=TL.row) (l:=x14.Held) Tryz.underlying63 rfl (fun w hw=>As.at_ (hw.get (i:=1) rfl))) (L.r 1 rfl (ln (W.block (W.loopJ (fun m gs D=>∃ gx296,∃ gu298:Unit,gs=[(0,(gv (q10 gx17.toNat) 0)),(1,.func (.func 51) #[] #[pt b1 0]),(7,.int .i64 (x14.Held.length:Int)),(8,.int .i64 gx296)]∧D=Cls w [] [.obj b15 [.int .i64 x14.Item,(gv (q10 gx17.toNat) 0),(gv (q10 gx17.toNat) 1)] 65,.obj b1 [.int .i64 a1] 3,.sl (gv (q10 gx17.toNat) 0) 68 2 (x14.Held.map TL.row),.sl (gv (q10 gx17.toNat) 1) 68 2 (x14.Queue.map TL.row),.sl gv10 65 3 (zr TI.rowv gq12 gl11),.sl gv15 3 1 (gl16.map I),.sl v9 65 3 (zr TI.rowv q10 l8),.ss (zsd TI.sds q10 l8 ((gx17+1:Int).toNat)),.os gc9]∧FzA K gc9 (zs TI.sds gq12 gl11)∧M22L7 x14 a1 gl11 gx17 go1 gl16 m gx296=some r) ⟨0,(),rfl,rfl,hG13,h⟩ ⟨rfl,rfl,rfl,rfl,trivial⟩ (sI [0,4,1,2,5,6,7,3,8]) ?_))))))
        rintro m _ _ ⟨gx296,gu298,rfl,rfl,hG297,h⟩
        rcases m with _ | m
        ·rw [M22L7] at h;cases h
        rw [M22L7] at h
        generalize hg15:M22L7 x14 a1 gl11 gx17 go1 gl16 m=go15 at h
        rw [M22L7B] at h
        refine sr (L.ite h rfl (Y.lss rfl rfl) (fun c204 h=>?_) (fun c204 h=>?_))
        ·refine ln (W.seq (W.condT rfl (W.skip (E.thenN (W.seq (W.block (sr (L.r 2 rfl (ln (W.seq ?_))))))))))
         refine W.region (L.r 3 rfl (L.m (V:=fun _=>el (gv (q10 gx17.toNat) 0) (gx296.toNat*2)) h rfl (Y.indexM (g:=TL.row) (l:=x14.Held) Tryz.underlying63 sz68 rfl rfl (fun w hw=>As.at_ (hw.get (i:=2) rfl))) (fun x205 ex205 h=>(L.y rfl (Y.loadEN (r:=[.int .i64 x205.Tx,.int .i64 x205.Mode]) ag68 sz68 rfl (fun w hw=>As.at_ (hw.get (i:=2) rfl)) (idx_map ex205) rfl) (L.callVJ (fun v D=>∃ gu300:Unit,v=.bool (decide (x205.Tx=a1))∧D=Cls w [] [.obj b15 [.int .i64 x14.Item,(gv (q10 gx17.toNat) 0),(gv (q10 gx17.toNat) 1)] 65,.obj b1 [.int .i64 a1] 3,.sl (gv (q10 gx17.toNat) 0) 68 2 (x14.Held.map TL.row),.sl (gv (q10 gx17.toNat) 1) 68 2 (x14.Queue.map TL.row),.sl gv10 65 3 (zr TI.rowv gq12 gl11),.sl gv15 3 1 (gl16.map I),.sl v9 65 3 (zr TI.rowv q10 l8),.ss (zsd TI.sds q10 l8 ((gx17+1:Int).toNat)),.os gc9]∧FzA K gc9 (zs TI.sds gq12 gl11)∧M22K25 x205 a1 x14 gl11 gx17 go1 gl16 gx296 go15=some r) rfl en51 rfl rfl Tryz.func51 rfl rfl rfl ?_ ?_)))))
         ·refine sr (L.box rfl rfl ?_)
          intro b207
          refine L.r 1 rfl (nsr (L.y rfl (Y.fieldP fd68_0 rfl) (L.y rfl (Y.loadP (i:=0) ag3 rfl rfl rfl) (L.y rfl (Y.loadP (i:=2) ag3 rfl rfl rfl) (L.y rfl (Y.eql rfl rfl) (L.r 1 rfl (ln (W.ret (E.ret1 rfl rfl (fun w1 hw=>?_))))))))))
          exact ⟨_,_,rfl,⟨(),rfl,rfl,hG297,h⟩,hw.s [1,2,3,4,5,6,7,8,9]⟩
         rintro _ _ ⟨gu300,rfl,rfl,hG299,h⟩
         rw [M22K25] at h
         refine ln (W.caseB (q:=16) h rfl (fun h=>?_) (fun h=>?_))
         ·exact W.condT rfl (sr (L.r 2 rfl (ln (W.ret (E.blockR (E.thenR (E.KLR (E.blockR (E.KSR (E.ret1 rfl rfl (fun w1 hw=>(⟨_,_,rfl,⟨gx296,(),rfl,rfl,hG299,h⟩,hw⟩))))))))))))
         exact W.condF rfl (W.skip (E.blockN (E.thenN (W.region (L.m (V:=fun x206=>.int .i64 x206) h rfl (Y.addM rfl rfl) (fun x206 ex206 h=>(L.r 1 rfl (L.nil (E.aJ ⟨x206,(),rfl,rfl,hG299,by rw [hg15];exact h⟩ hI)))))))))
        exact ln (W.seq (W.condF rfl (W.exit (E.thenX (E.KLX (E.blockX (E.joinJ ⟨(),rfl,rfl,hG297,h⟩ trivial hI)))))))
       rintro _ _ ⟨gu293,rfl,rfl,hG292,h⟩
       rw [M22K24] at h
       exact sr (L.r 1 rfl (ln (W.ret (E.ret1 rfl rfl (fun w1 hw=>(⟨_,_,rfl,⟨(-1),(),rfl,rfl,hG292,h⟩,hw⟩))))))
      rintro _ _ ⟨gx272,gu274,rfl,rfl,hG273,h⟩
      rw [M22K19] at h
      refine L.r 1 rfl (ln (W.seqJ (fun gs D=>∃ gu276:Unit,gs=[(0,(gv (q10 gx17.toNat) 0)),(1,.func (.func 51) #[] #[pt b1 0]),(5,.int .i64 gx272)]∧D=Cls w [] [.obj b15 [.int .i64 x14.Item,(gv (q10 gx17.toNat) 0),(gv (q10 gx17.toNat) 1)] 65,.obj b1 [.int .i64 a1] 3,.sl (gv (q10 gx17.toNat) 0) 68 2 (x14.Held.map TL.row),.sl (gv (q10 gx17.toNat) 1) 68 2 (x14.Queue.map TL.row),.sl gv10 65 3 (zr TI.rowv gq12 gl11),.sl gv15 3 1 (gl16.map I),.sl v9 65 3 (zr TI.rowv q10 l8),.ss (zsd TI.sds q10 l8 ((gx17+1:Int).toNat)),.os gc9]∧FzA K gc9 (zs TI.sds gq12 gl11)∧M22K20 gx272 a1 x14 gl11 gx17 go1 gl16=some r) ?_ ?_))
      ·refine sr (L.r 1 rfl (L.ite h rfl (Y.eql rfl rfl) (fun c203 h=>?_) (fun c203 h=>?_)))
       ·exact ln (W.condT rfl (sr (L.r 2 rfl (ln (W.ret (E.KSR (E.ret1 rfl rfl (fun w1 hw=>(⟨_,_,rfl,⟨(),(gv (q10 gx17.toNat) 0),x14.Held,rfl,rfl,hG273,h⟩,hw.s [0,1,4,5,6,7,3,2,8]⟩)))))))))
       exact ln (W.condF rfl (W.skip (E.jJ ⟨(),rfl,rfl,hG273,h⟩ hI)))
      rintro _ _ ⟨gu276,rfl,rfl,hG275,h⟩
      rw [M22K20] at h
      refine W.seqJ (fun gs D=>∃ gl277 gx278,∃ gu280:Unit,gs=[(0,(gv (q10 gx17.toNat) 0)),(5,.int .i64 gx278)]∧D=Cls w [] [.obj b15 [.int .i64 x14.Item,(gv (q10 gx17.toNat) 0),(gv (q10 gx17.toNat) 1)] 65,.obj b1 [.int .i64 a1] 3,.sl (gv (q10 gx17.toNat) 0) 68 2 (gl277.map TL.row),.sl (gv (q10 gx17.toNat) 1) 68 2 (x14.Queue.map TL.row),.sl gv10 65 3 (zr TI.rowv gq12 gl11),.sl gv15 3 1 (gl16.map I),.sl v9 65 3 (zr TI.rowv q10 l8),.ss (zsd TI.sds q10 l8 ((gx17+1:Int).toNat)),.os gc9]∧FzA K gc9 (zs TI.sds gq12 gl11)∧M22K21 x14 a1 gl11 gx17 go1 gl16 gl277 gx278=some r) ?_ ?_
      ·refine sr (L.r 1 rfl (L.m (V:=fun x192=>.int .i64 x192) h rfl (Y.addM rfl rfl) (fun x192 ex192 h=>(L.r 1 rfl (ln (W.block (W.loopJ (fun m gs D=>∃ gl283 gx284 gx285,∃ gu287:Unit,gs=[(0,(gv (q10 gx17.toNat) 0)),(1,.func (.func 51) #[] #[pt b1 0]),(5,.int .i64 gx284),(6,.int .i64 gx285)]∧D=Cls w [] [.obj b15 [.int .i64 x14.Item,(gv (q10 gx17.toNat) 0),(gv (q10 gx17.toNat) 1)] 65,.obj b1 [.int .i64 a1] 3,.sl (gv (q10 gx17.toNat) 0) 68 2 (gl283.map TL.row),.sl (gv (q10 gx17.toNat) 1) 68 2 (x14.Queue.map TL.row),.sl gv10 65 3 (zr TI.rowv gq12 gl11),.sl gv15 3 1 (gl16.map I),.sl v9 65 3 (zr TI.rowv q10 l8),.ss (zsd TI.sds q10 l8 ((gx17+1:Int).toNat)),.os gc9]∧FzA K gc9 (zs TI.sds gq12 gl11)∧M22L6 a1 x14 gl11 gx17 go1 gl16 m gl283 gx284 gx285=some r) ⟨x14.Held,gx272,x192,(),rfl,rfl,hG275,h⟩ ⟨rfl,rfl,rfl,rfl,trivial⟩ hI ?_)))))))
       rintro m _ _ ⟨gl283,gx284,gx285,gu287,rfl,rfl,hG286,h⟩
       rcases m with _ | m
       ·rw [M22L6] at h;cases h
       rw [M22L6] at h
       generalize hg14:M22L6 a1 x14 gl11 gx17 go1 gl16 m=go14 at h
       rw [M22L6B] at h
       refine W.seqJ (fun gs D=>∃ gu289:Unit,gs=[(0,(gv (q10 gx17.toNat) 0)),(1,.func (.func 51) #[] #[pt b1 0]),(5,.int .i64 gx284),(6,.int .i64 gx285)]∧D=Cls w [] [.obj b15 [.int .i64 x14.Item,(gv (q10 gx17.toNat) 0),(gv (q10 gx17.toNat) 1)] 65,.obj b1 [.int .i64 a1] 3,.sl (gv (q10 gx17.toNat) 0) 68 2 (gl283.map TL.row),.sl (gv (q10 gx17.toNat) 1) 68 2 (x14.Queue.map TL.row),.sl gv10 65 3 (zr TI.rowv gq12 gl11),.sl gv15 3 1 (gl16.map I),.sl v9 65 3 (zr TI.rowv q10 l8),.ss (zsd TI.sds q10 l8 ((gx17+1:Int).toNat)),.os gc9]∧FzA K gc9 (zs TI.sds gq12 gl11)∧M22K22 gl283 gx285 a1 gx284 go14=some r) ?_ ?_
       ·refine sr (L.r 2 rfl (L.y rfl (Y.lenM (g:=TL.row) (l:=gl283) Tryz.underlying63 rfl (fun w hw=>As.at_ (hw.get (i:=2) rfl))) (L.ite h rfl (Y.lss rfl rfl) (fun c202 h=>?_) (fun c202 h=>?_))))
        ·exact ln (W.condT rfl (W.skip (E.jJ ⟨(),rfl,rfl,hG286,h⟩ hI)))
        exact ln (W.condF rfl (W.exit (E.KSX (E.KLX (E.blockX (E.jJ ⟨gl283,gx284,(),rfl,rfl,hG286,h⟩ hI))))))
       rintro _ _ ⟨gu289,rfl,rfl,hG288,h⟩
       rw [M22K22] at h
       refine W.seq (W.block (sr (L.r 2 rfl (L.m (V:=fun _=>el (gv (q10 gx17.toNat) 0) (gx285.toNat*2)) h rfl (Y.indexM (g:=TL.row) (l:=gl283) Tryz.underlying63 sz68 rfl rfl (fun w hw=>As.at_ (hw.get (i:=2) rfl))) (fun x193 ex193 h=>(L.y rfl (Y.loadEN (r:=[.int .i64 x193.Tx,.int .i64 x193.Mode]) ag68 sz68 rfl (fun w hw=>As.at_ (hw.get (i:=2) rfl)) (idx_map ex193) rfl) (L.alloc rfl ze68 ?_)))))))
       intro b194
       refine L.store (i:=0) (vs:=[.int .i64 x193.Tx,.int .i64 x193.Mode]) sz68 rfl rfl rfl rfl (by simp [Value.oneCell',Value.cells,st,pt,el]) rfl nb (nsr (L.r 1 rfl (L.y rfl (Y.loadPW (i:=0) ag68 sz68 rfl rfl rfl) (L.callVJ (fun v D=>∃ gu291:Unit,v=.bool (decide (x193.Tx=a1))∧D=Cls w [] [.obj b194 [.int .i64 x193.Tx,.int .i64 x193.Mode] 68,.obj b15 [.int .i64 x14.Item,(gv (q10 gx17.toNat) 0),(gv (q10 gx17.toNat) 1)] 65,.obj b1 [.int .i64 a1] 3,.sl (gv (q10 gx17.toNat) 0) 68 2 (gl283.map TL.row),.sl (gv (q10 gx17.toNat) 1) 68 2 (x14.Queue.map TL.row),.sl gv10 65 3 (zr TI.rowv gq12 gl11),.sl gv15 3 1 (gl16.map I),.sl v9 65 3 (zr TI.rowv q10 l8),.ss (zsd TI.sds q10 l8 ((gx17+1:Int).toNat)),.os gc9]∧FzA K gc9 (zs TI.sds gq12 gl11)∧M22K23 x193 a1 gl283 gx284 gx285 go14=some r) rfl en51 rfl rfl Tryz.func51 rfl rfl rfl ?_ ?_))))
       ·refine sr (L.box rfl rfl ?_)
        intro b201
        refine L.r 1 rfl (nsr (L.y rfl (Y.fieldP fd68_0 rfl) (L.y rfl (Y.loadP (i:=0) ag3 rfl rfl rfl) (L.y rfl (Y.loadP (i:=3) ag3 rfl rfl rfl) (L.y rfl (Y.eql rfl rfl) (L.r 1 rfl (ln (W.ret (E.ret1 rfl rfl (fun w1 hw=>?_))))))))))
        exact ⟨_,_,rfl,⟨(),rfl,rfl,hG288,h⟩,hw.s [1,2,3,4,5,6,7,8,9,10]⟩
       rintro _ _ ⟨gu291,rfl,rfl,hG290,h⟩
       rw [M22K23] at h
       refine L.iteB h rfl (Y.not rfl) (fun c195 h=>?_) (fun c195 h=>?_)
       ·refine ln (W.condT rfl (sr (L.r 2 rfl (L.y rfl (Y.loadPW (i:=0) ag68 sz68 rfl rfl rfl) (L.m (V:=fun _=>el (gv (q10 gx17.toNat) 0) (gx284.toNat*2)) h rfl (Y.indexM (g:=TL.row) (l:=gl283) Tryz.underlying63 sz68 rfl rfl (fun w hw=>As.at_ (hw.get (i:=3) rfl))) (fun x196 ex196 h=>(L.storeSlM (q:=3) (row:=TL.row) (vs:=[.int .i64 x193.Tx,.int .i64 x193.Mode]) (j:=0) (u1:=x193) h sz68 rfl rfl rfl rfl rfl (all1 rfl (all1 rfl all0)) rfl ex196 rfl rfl ?_)))))))
        intro l197 el197 h
        exact nr (L.r 1 rfl (L.m (V:=fun x198=>.int .i64 x198) h rfl (Y.addM rfl rfl) (fun x198 ex198 h=>(L.r 1 rfl (L.nil (E.blockN (E.thenN (W.region (L.r 1 rfl (L.m (V:=fun x199=>.int .i64 x199) h rfl (Y.addM rfl rfl) (fun x199 ex199 h=>(L.r 1 rfl (L.nil (E.aJ ⟨l197,x198,x199,(),rfl,rfl,hG290,by rw [hg14];exact h⟩ (sI [1,2,3,4,5,6,7,8,9])))))))))))))))
       exact ln (W.condF rfl (W.skip (E.blockN (E.thenN (W.region (L.r 1 rfl (L.m (V:=fun x200=>.int .i64 x200) h rfl (Y.addM rfl rfl) (fun x200 ex200 h=>(L.r 1 rfl (L.nil (E.aJ ⟨gl283,gx284,x200,(),rfl,rfl,hG290,by rw [hg14];exact h⟩ (sI [1,2,3,4,5,6,7,8,9]))))))))))))
      rintro _ _ ⟨gl277,gx278,gu280,rfl,rfl,hG279,h⟩
      rw [M22K21] at h
      refine sr (L.r 2 rfl (L.m (V:=fun _=>dropv (gv (q10 gx17.toNat) 0) gx278.toNat 2) h rfl (Y.dropM (g:=TL.row) Tryz.underlying63 sz68 rfl rfl (fun w hw=>As.at_ (hw.get (i:=2) rfl))) (fun l188 el188 h=>(L.clearM (i:=2) (g:=TL.row) (z0:=(⟨0,0⟩:TL)) (a:=gx278) h Tryz.underlying63 eL68 ze68 (fun u hu=>((plain_TLock _):Plain ([(⟨0,0⟩:TL)].map TL.row)) _ (List.mem_cons_self ..) u hu) rfl rfl ?_))))
      intro l189 el189 h
      refine nsr (L.r 2 rfl ?_)
      obtain ⟨l190,el190,h⟩:=bind1S h
      exact L.cutM (i:=2) (g:=TL.row) el190 rfl Tryz.underlying63 sz68 rfl rfl rfl (fun v191=>(L.r 1 rfl (ln (W.ret (E.ret1 rfl rfl (fun w1 hw=>(⟨_,_,rfl,⟨(),v191,l190,rfl,rfl,hG279,h⟩,hw.s [0,1,4,5,6,7,3,2,8]⟩)))))))
     rintro gv237 _ ⟨gu236,_,gl238,rfl,rfl,hG235,h⟩
     rw [M22K10] at h
     refine L.nil (E.toV2 (stC [[7]] [Cls w [] [.obj b1 [.int .i64 a1] 3,.sl gv15 3 1 (gl16.map I),.sl v9 65 3 (zr TI.rowv q10 l8),.sl (gv (q10 gx17.toNat) 1) 68 2 (x14.Queue.map TL.row),.sl gv237 68 2 (gl238.map TL.row),.os gc9]] (Cls w [] [.obj b1 [.int .i64 a1] 3,.sl gv15 3 1 (gl16.map I),.sl v9 65 3 (zr TI.rowv q10 l8),.sl gv237 68 2 (gl238.map TL.row),.os gc9])) 3 (by kernel_rfl) (Sc.past rfl (Sc.stay (sI [3,0,1,2,5]) (Sc.stayD (sI [0,1,2,4])))) (Sc.now (by kernel_rfl) (sI [1,3,4,6,7,8])) (V2.eff (i:=7) (by kernel_rfl) rfl (L.callJ (fun v D=>∃ gu240:Unit,∃ gv241 gl242,v=gv241∧D=Cls w [] [.obj b15 [.int .i64 x14.Item,(gv (q10 gx17.toNat) 0),(gv (q10 gx17.toNat) 1)] 65,.obj b1 [.int .i64 a1] 3,.sl gv10 65 3 (zr TI.rowv gq12 gl11),.sl gv15 3 1 (gl16.map I),.sl v9 65 3 (zr TI.rowv q10 l8),.ss (zsd TI.sds q10 l8 ((gx17+1:Int).toNat)),.sl gv237 68 2 (gl238.map TL.row),.sl gv241 68 2 (gl242.map TL.row),.os gc9]∧FzA K gc9 (zs TI.sds gq12 gl11)∧M22K11 x14 gl11 gx17 go1 gl16 gl238 gl242=some r) rfl en52 rfl Tryz.func52 rfl rfl rfl ?_ ?_)))
     ·refine sr (L.r 1 rfl (nsr (L.r 2 rfl (L.callJ (fun v D=>∃ gx243,∃ gu245:Unit,v=.int .i64 gx243∧D=Cls w [] [.obj b15 [.int .i64 x14.Item,(gv (q10 gx17.toNat) 0),(gv (q10 gx17.toNat) 1)] 65,.obj b1 [.int .i64 a1] 3,.sl (gv (q10 gx17.toNat) 1) 68 2 (x14.Queue.map TL.row),.sl gv10 65 3 (zr TI.rowv gq12 gl11),.sl gv15 3 1 (gl16.map I),.sl v9 65 3 (zr TI.rowv q10 l8),.ss (zsd TI.sds q10 l8 ((gx17+1:Int).toNat)),.sl gv237 68 2 (gl238.map TL.row),.os gc9]∧FzA K gc9 (zs TI.sds gq12 gl11)∧M22K12 x14 gl11 gx17 go1 gl16 gl238 a1 gx243=some r) rfl en47 rfl Tryz.func47 rfl rfl rfl ?_ ?_))))
      ·refine sr (L.r 1 rfl (ln (W.seqJ (fun gs D=>∃ gu264:Unit,gs=[]∧D=Cls w [] [.obj b15 [.int .i64 x14.Item,(gv (q10 gx17.toNat) 0),(gv (q10 gx17.toNat) 1)] 65,.obj b1 [.int .i64 a1] 3,.sl (gv (q10 gx17.toNat) 1) 68 2 (x14.Queue.map TL.row),.sl gv10 65 3 (zr TI.rowv gq12 gl11),.sl gv15 3 1 (gl16.map I),.sl v9 65 3 (zr TI.rowv q10 l8),.ss (zsd TI.sds q10 l8 ((gx17+1:Int).toNat)),.sl gv237 68 2 (gl238.map TL.row),.os gc9]∧FzA K gc9 (zs TI.sds gq12 gl11)∧M22K17 x14 gl11 gx17 go1 gl16 gl238 a1=some r) ?_ ?_)))
       ·refine sr (L.r 1 rfl (L.y rfl (Y.lenM (g:=TL.row) (l:=x14.Queue) Tryz.underlying63 rfl (fun w hw=>As.at_ (hw.get (i:=6) rfl))) (L.r 1 rfl (ln (W.block (W.loopJ (fun m gs D=>∃ gx267,∃ gu269:Unit,gs=[(0,(gv (q10 gx17.toNat) 1)),(1,.func (.func 51) #[] #[pt b1 0]),(7,.int .i64 (x14.Queue.length:Int)),(8,.int .i64 gx267)]∧D=Cls w [] [.obj b15 [.int .i64 x14.Item,(gv (q10 gx17.toNat) 0),(gv (q10 gx17.toNat) 1)] 65,.obj b1 [.int .i64 a1] 3,.sl (gv (q10 gx17.toNat) 1) 68 2 (x14.Queue.map TL.row),.sl gv10 65 3 (zr TI.rowv gq12 gl11),.sl gv15 3 1 (gl16.map I),.sl v9 65 3 (zr TI.rowv q10 l8),.ss (zsd TI.sds q10 l8 ((gx17+1:Int).toNat)),.sl gv237 68 2 (gl238.map TL.row),.os gc9]∧FzA K gc9 (zs TI.sds gq12 gl11)∧M22L5 x14 a1 gl11 gx17 go1 gl16 gl238 m gx267=some r) ⟨0,(),rfl,rfl,hG235,h⟩ ⟨rfl,rfl,rfl,rfl,trivial⟩ (sI [0,1,6,2,3,4,5,7,8]) ?_))))))
        rintro m _ _ ⟨gx267,gu269,rfl,rfl,hG268,h⟩
        rcases m with _ | m
        ·rw [M22L5] at h;cases h
        rw [M22L5] at h
        generalize hg13:M22L5 x14 a1 gl11 gx17 go1 gl16 gl238 m=go13 at h
        rw [M22L5B] at h
        refine sr (L.ite h rfl (Y.lss rfl rfl) (fun c184 h=>?_) (fun c184 h=>?_))
        ·refine ln (W.seq (W.condT rfl (W.skip (E.thenN (W.seq (W.block (sr (L.r 2 rfl (ln (W.seq ?_))))))))))
         refine W.region (L.r 3 rfl (L.m (V:=fun _=>el (gv (q10 gx17.toNat) 1) (gx267.toNat*2)) h rfl (Y.indexM (g:=TL.row) (l:=x14.Queue) Tryz.underlying63 sz68 rfl rfl (fun w hw=>As.at_ (hw.get (i:=2) rfl))) (fun x185 ex185 h=>(L.y rfl (Y.loadEN (r:=[.int .i64 x185.Tx,.int .i64 x185.Mode]) ag68 sz68 rfl (fun w hw=>As.at_ (hw.get (i:=2) rfl)) (idx_map ex185) rfl) (L.callVJ (fun v D=>∃ gu271:Unit,v=.bool (decide (x185.Tx=a1))∧D=Cls w [] [.obj b15 [.int .i64 x14.Item,(gv (q10 gx17.toNat) 0),(gv (q10 gx17.toNat) 1)] 65,.obj b1 [.int .i64 a1] 3,.sl (gv (q10 gx17.toNat) 1) 68 2 (x14.Queue.map TL.row),.sl gv10 65 3 (zr TI.rowv gq12 gl11),.sl gv15 3 1 (gl16.map I),.sl v9 65 3 (zr TI.rowv q10 l8),.ss (zsd TI.sds q10 l8 ((gx17+1:Int).toNat)),.sl gv237 68 2 (gl238.map TL.row),.os gc9]∧FzA K gc9 (zs TI.sds gq12 gl11)∧M22K18 x185 a1 x14 gl11 gx17 go1 gl16 gl238 gx267 go13=some r) rfl en51 rfl rfl Tryz.func51 rfl rfl rfl ?_ ?_)))))
         ·refine sr (L.box rfl rfl ?_)
          intro b187
          refine L.r 1 rfl (nsr (L.y rfl (Y.fieldP fd68_0 rfl) (L.y rfl (Y.loadP (i:=0) ag3 rfl rfl rfl) (L.y rfl (Y.loadP (i:=2) ag3 rfl rfl rfl) (L.y rfl (Y.eql rfl rfl) (L.r 1 rfl (ln (W.ret (E.ret1 rfl rfl (fun w1 hw=>?_))))))))))
          exact ⟨_,_,rfl,⟨(),rfl,rfl,hG268,h⟩,hw.s [1,2,3,4,5,6,7,8,9]⟩
         rintro _ _ ⟨gu271,rfl,rfl,hG270,h⟩
         rw [M22K18] at h
         refine ln (W.caseB (q:=16) h rfl (fun h=>?_) (fun h=>?_))
         ·exact W.condT rfl (sr (L.r 2 rfl (ln (W.ret (E.blockR (E.thenR (E.KLR (E.blockR (E.KSR (E.ret1 rfl rfl (fun w1 hw=>(⟨_,_,rfl,⟨gx267,(),rfl,rfl,hG270,h⟩,hw⟩))))))))))))
         exact W.condF rfl (W.skip (E.blockN (E.thenN (W.region (L.m (V:=fun x186=>.int .i64 x186) h rfl (Y.addM rfl rfl) (fun x186 ex186 h=>(L.r 1 rfl (L.nil (E.aJ ⟨x186,(),rfl,rfl,hG270,by rw [hg13];exact h⟩ hI)))))))))
        exact ln (W.seq (W.condF rfl (W.exit (E.thenX (E.KLX (E.blockX (E.joinJ ⟨(),rfl,rfl,hG268,h⟩ trivial hI)))))))
       rintro _ _ ⟨gu264,rfl,rfl,hG263,h⟩
       rw [M22K17] at h
       exact sr (L.r 1 rfl (ln (W.ret (E.ret1 rfl rfl (fun w1 hw=>(⟨_,_,rfl,⟨(-1),(),rfl,rfl,hG263,h⟩,hw⟩))))))
      rintro _ _ ⟨gx243,gu245,rfl,rfl,hG244,h⟩
      rw [M22K12] at h
      refine L.r 1 rfl (ln (W.seqJ (fun gs D=>∃ gu247:Unit,gs=[(0,(gv (q10 gx17.toNat) 1)),(1,.func (.func 51) #[] #[pt b1 0]),(5,.int .i64 gx243)]∧D=Cls w [] [.obj b15 [.int .i64 x14.Item,(gv (q10 gx17.toNat) 0),(gv (q10 gx17.toNat) 1)] 65,.obj b1 [.int .i64 a1] 3,.sl (gv (q10 gx17.toNat) 1) 68 2 (x14.Queue.map TL.row),.sl gv10 65 3 (zr TI.rowv gq12 gl11),.sl gv15 3 1 (gl16.map I),.sl v9 65 3 (zr TI.rowv q10 l8),.ss (zsd TI.sds q10 l8 ((gx17+1:Int).toNat)),.sl gv237 68 2 (gl238.map TL.row),.os gc9]∧FzA K gc9 (zs TI.sds gq12 gl11)∧M22K13 gx243 a1 x14 gl11 gx17 go1 gl16 gl238=some r) ?_ ?_))
      ·refine sr (L.r 1 rfl (L.ite h rfl (Y.eql rfl rfl) (fun c183 h=>?_) (fun c183 h=>?_)))
       ·exact ln (W.condT rfl (sr (L.r 2 rfl (ln (W.ret (E.KSR (E.ret1 rfl rfl (fun w1 hw=>(⟨_,_,rfl,⟨(),(gv (q10 gx17.toNat) 1),x14.Queue,rfl,rfl,hG244,h⟩,hw.s [0,1,3,4,5,6,7,2,8]⟩)))))))))
       exact ln (W.condF rfl (W.skip (E.jJ ⟨(),rfl,rfl,hG244,h⟩ hI)))
      rintro _ _ ⟨gu247,rfl,rfl,hG246,h⟩
      rw [M22K13] at h
      refine W.seqJ (fun gs D=>∃ gl248 gx249,∃ gu251:Unit,gs=[(0,(gv (q10 gx17.toNat) 1)),(5,.int .i64 gx249)]∧D=Cls w [] [.obj b15 [.int .i64 x14.Item,(gv (q10 gx17.toNat) 0),(gv (q10 gx17.toNat) 1)] 65,.obj b1 [.int .i64 a1] 3,.sl (gv (q10 gx17.toNat) 1) 68 2 (gl248.map TL.row),.sl gv10 65 3 (zr TI.rowv gq12 gl11),.sl gv15 3 1 (gl16.map I),.sl v9 65 3 (zr TI.rowv q10 l8),.ss (zsd TI.sds q10 l8 ((gx17+1:Int).toNat)),.sl gv237 68 2 (gl238.map TL.row),.os gc9]∧FzA K gc9 (zs TI.sds gq12 gl11)∧M22K14 x14 gl11 gx17 go1 gl16 gl238 gl248 gx249=some r) ?_ ?_
      ·refine sr (L.r 1 rfl (L.m (V:=fun x172=>.int .i64 x172) h rfl (Y.addM rfl rfl) (fun x172 ex172 h=>(L.r 1 rfl (ln (W.block (W.loopJ (fun m gs D=>∃ gl254 gx255 gx256,∃ gu258:Unit,gs=[(0,(gv (q10 gx17.toNat) 1)),(1,.func (.func 51) #[] #[pt b1 0]),(5,.int .i64 gx255),(6,.int .i64 gx256)]∧D=Cls w [] [.obj b15 [.int .i64 x14.Item,(gv (q10 gx17.toNat) 0),(gv (q10 gx17.toNat) 1)] 65,.obj b1 [.int .i64 a1] 3,.sl (gv (q10 gx17.toNat) 1) 68 2 (gl254.map TL.row),.sl gv10 65 3 (zr TI.rowv gq12 gl11),.sl gv15 3 1 (gl16.map I),.sl v9 65 3 (zr TI.rowv q10 l8),.ss (zsd TI.sds q10 l8 ((gx17+1:Int).toNat)),.sl gv237 68 2 (gl238.map TL.row),.os gc9]∧FzA K gc9 (zs TI.sds gq12 gl11)∧M22L4 a1 x14 gl11 gx17 go1 gl16 gl238 m gl254 gx255 gx256=some r) ⟨x14.Queue,gx243,x172,(),rfl,rfl,hG246,h⟩ ⟨rfl,rfl,rfl,rfl,trivial⟩ hI ?_)))))))
       rintro m _ _ ⟨gl254,gx255,gx256,gu258,rfl,rfl,hG257,h⟩
       rcases m with _ | m
       ·rw [M22L4] at h;cases h
       rw [M22L4] at h
       generalize hg12:M22L4 a1 x14 gl11 gx17 go1 gl16 gl238 m=go12 at h
       rw [M22L4B] at h
       refine W.seqJ (fun gs D=>∃ gu260:Unit,gs=[(0,(gv (q10 gx17.toNat) 1)),(1,.func (.func 51) #[] #[pt b1 0]),(5,.int .i64 gx255),(6,.int .i64 gx256)]∧D=Cls w [] [.obj b15 [.int .i64 x14.Item,(gv (q10 gx17.toNat) 0),(gv (q10 gx17.toNat) 1)] 65,.obj b1 [.int .i64 a1] 3,.sl (gv (q10 gx17.toNat) 1) 68 2 (gl254.map TL.row),.sl gv10 65 3 (zr TI.rowv gq12 gl11),.sl gv15 3 1 (gl16.map I),.sl v9 65 3 (zr TI.rowv q10 l8),.ss (zsd TI.sds q10 l8 ((gx17+1:Int).toNat)),.sl gv237 68 2 (gl238.map TL.row),.os gc9]∧FzA K gc9 (zs TI.sds gq12 gl11)∧M22K15 gl254 gx256 a1 gx255 go12=some r) ?_ ?_
       ·refine sr (L.r 2 rfl (L.y rfl (Y.lenM (g:=TL.row) (l:=gl254) Tryz.underlying63 rfl (fun w hw=>As.at_ (hw.get (i:=2) rfl))) (L.ite h rfl (Y.lss rfl rfl) (fun c182 h=>?_) (fun c182 h=>?_))))
        ·exact ln (W.condT rfl (W.skip (E.jJ ⟨(),rfl,rfl,hG257,h⟩ hI)))
        exact ln (W.condF rfl (W.exit (E.KSX (E.KLX (E.blockX (E.jJ ⟨gl254,gx255,(),rfl,rfl,hG257,h⟩ hI))))))
       rintro _ _ ⟨gu260,rfl,rfl,hG259,h⟩
       rw [M22K15] at h
       refine W.seq (W.block (sr (L.r 2 rfl (L.m (V:=fun _=>el (gv (q10 gx17.toNat) 1) (gx256.toNat*2)) h rfl (Y.indexM (g:=TL.row) (l:=gl254) Tryz.underlying63 sz68 rfl rfl (fun w hw=>As.at_ (hw.get (i:=2) rfl))) (fun x173 ex173 h=>(L.y rfl (Y.loadEN (r:=[.int .i64 x173.Tx,.int .i64 x173.Mode]) ag68 sz68 rfl (fun w hw=>As.at_ (hw.get (i:=2) rfl)) (idx_map ex173) rfl) (L.alloc rfl ze68 ?_)))))))
       intro b174
       refine L.store (i:=0) (vs:=[.int .i64 x173.Tx,.int .i64 x173.Mode]) sz68 rfl rfl rfl rfl (by simp [Value.oneCell',Value.cells,st,pt,el]) rfl nb (nsr (L.r 1 rfl (L.y rfl (Y.loadPW (i:=0) ag68 sz68 rfl rfl rfl) (L.callVJ (fun v D=>∃ gu262:Unit,v=.bool (decide (x173.Tx=a1))∧D=Cls w [] [.obj b174 [.int .i64 x173.Tx,.int .i64 x173.Mode] 68,.obj b15 [.int .i64 x14.Item,(gv (q10 gx17.toNat) 0),(gv (q10 gx17.toNat) 1)] 65,.obj b1 [.int .i64 a1] 3,.sl (gv (q10 gx17.toNat) 1) 68 2 (gl254.map TL.row),.sl gv10 65 3 (zr TI.rowv gq12 gl11),.sl gv15 3 1 (gl16.map I),.sl v9 65 3 (zr TI.rowv q10 l8),.ss (zsd TI.sds q10 l8 ((gx17+1:Int).toNat)),.sl gv237 68 2 (gl238.map TL.row),.os gc9]∧FzA K gc9 (zs TI.sds gq12 gl11)∧M22K16 x173 a1 gl254 gx255 gx256 go12=some r) rfl en51 rfl rfl Tryz.func51 rfl rfl rfl ?_ ?_))))
       ·refine sr (L.box rfl rfl ?_)
        intro b181
        refine L.r 1 rfl (nsr (L.y rfl (Y.fieldP fd68_0 rfl) (L.y rfl (Y.loadP (i:=0) ag3 rfl rfl rfl) (L.y rfl (Y.loadP (i:=3) ag3 rfl rfl rfl) (L.y rfl (Y.eql rfl rfl) (L.r 1 rfl (ln (W.ret (E.ret1 rfl rfl (fun w1 hw=>?_))))))))))
        exact ⟨_,_,rfl,⟨(),rfl,rfl,hG259,h⟩,hw.s [1,2,3,4,5,6,7,8,9,10]⟩
       rintro _ _ ⟨gu262,rfl,rfl,hG261,h⟩
       rw [M22K16] at h
       refine L.iteB h rfl (Y.not rfl) (fun c175 h=>?_) (fun c175 h=>?_)
       ·refine ln (W.condT rfl (sr (L.r 2 rfl (L.y rfl (Y.loadPW (i:=0) ag68 sz68 rfl rfl rfl) (L.m (V:=fun _=>el (gv (q10 gx17.toNat) 1) (gx255.toNat*2)) h rfl (Y.indexM (g:=TL.row) (l:=gl254) Tryz.underlying63 sz68 rfl rfl (fun w hw=>As.at_ (hw.get (i:=3) rfl))) (fun x176 ex176 h=>(L.storeSlM (q:=3) (row:=TL.row) (vs:=[.int .i64 x173.Tx,.int .i64 x173.Mode]) (j:=0) (u1:=x173) h sz68 rfl rfl rfl rfl rfl (all1 rfl (all1 rfl all0)) rfl ex176 rfl rfl ?_)))))))
        intro l177 el177 h
        exact nr (L.r 1 rfl (L.m (V:=fun x178=>.int .i64 x178) h rfl (Y.addM rfl rfl) (fun x178 ex178 h=>(L.r 1 rfl (L.nil (E.blockN (E.thenN (W.region (L.r 1 rfl (L.m (V:=fun x179=>.int .i64 x179) h rfl (Y.addM rfl rfl) (fun x179 ex179 h=>(L.r 1 rfl (L.nil (E.aJ ⟨l177,x178,x179,(),rfl,rfl,hG261,by rw [hg12];exact h⟩ (sI [1,2,3,4,5,6,7,8,9])))))))))))))))
       exact ln (W.condF rfl (W.skip (E.blockN (E.thenN (W.region (L.r 1 rfl (L.m (V:=fun x180=>.int .i64 x180) h rfl (Y.addM rfl rfl) (fun x180 ex180 h=>(L.r 1 rfl (L.nil (E.aJ ⟨gl254,gx255,x180,(),rfl,rfl,hG261,by rw [hg12];exact h⟩ (sI [1,2,3,4,5,6,7,8,9]))))))))))))
      rintro _ _ ⟨gl248,gx249,gu251,rfl,rfl,hG250,h⟩
      rw [M22K14] at h
      refine sr (L.r 2 rfl (L.m (V:=fun _=>dropv (gv (q10 gx17.toNat) 1) gx249.toNat 2) h rfl (Y.dropM (g:=TL.row) Tryz.underlying63 sz68 rfl rfl (fun w hw=>As.at_ (hw.get (i:=2) rfl))) (fun l168 el168 h=>(L.clearM (i:=2) (g:=TL.row) (z0:=(⟨0,0⟩:TL)) (a:=gx249) h Tryz.underlying63 eL68 ze68 (fun u hu=>((plain_TLock _):Plain ([(⟨0,0⟩:TL)].map TL.row)) _ (List.mem_cons_self ..) u hu) rfl rfl ?_))))
      intro l169 el169 h
      refine nsr (L.r 2 rfl ?_)
      obtain ⟨l170,el170,h⟩:=bind1S h
      exact L.cutM (i:=2) (g:=TL.row) el170 rfl Tryz.underlying63 sz68 rfl rfl rfl (fun v171=>(L.r 1 rfl (ln (W.ret (E.ret1 rfl rfl (fun w1 hw=>(⟨_,_,rfl,⟨(),v171,l170,rfl,rfl,hG250,h⟩,hw.s [0,1,3,4,5,6,7,2,8]⟩)))))))
     rintro gv241 _ ⟨gu240,_,gl242,rfl,rfl,hG239,h⟩
     rw [M22K11] at h
     refine L.nil (E.toV2 (stC [] [] (Cls w [] [.obj b1 [.int .i64 a1] 3,.sl gv15 3 1 (gl16.map I),.sl v9 65 3 (zr TI.rowv q10 l8),.sl gv237 68 2 (gl238.map TL.row),.sl gv241 68 2 (gl242.map TL.row),.os gc9])) 7 (by kernel_rfl) (Sc.past rfl (Sc.stayD (sI [0,1,2,3,5]))) (Sc.atD (sI [1,3,4,6,7,8])) (V2.zz [] (Zc.fin hI) (fun hz166=>(V2.q 8 [] hz166 rfl rfl (Y.fieldP fd65_1 rfl) (V2.eff (i:=9) (by kernel_rfl) rfl (L.storeV (i:=0) sz63 rfl rfl (fun _ hw=>(As.at_ (hw.get (i:=6) rfl)).one) rfl nb (L.nil (E.toV2 (stC [] [] (Cls w [] [.obj b1 [.int .i64 a1] 3,.sl gv15 3 1 (gl16.map I),.sl v9 65 3 (zr TI.rowv q10 l8),.sl gv237 68 2 (gl238.map TL.row),.sl gv241 68 2 (gl242.map TL.row),.os gc9])) 9 (by kernel_rfl) (Sc.stayD hI) (Sc.atD (sI [1,3,4,6,7,8])) (V2.zz [] (Zc.fin hI) (fun hz167=>(V2.q 10 [] hz167 rfl rfl (Y.fieldP fd65_2 rfl) (V2.eff (i:=11) (by kernel_rfl) rfl (L.storeV (i:=0) sz63 rfl rfl (fun _ hw=>(As.at_ (hw.get (i:=7) rfl)).one) rfl nb (L.nil (E.toV2 (stC [] [] (Cls w [] [.obj b1 [.int .i64 a1] 3,.sl gv15 3 1 (gl16.map I),.sl v9 65 3 (zr TI.rowv q10 l8),.sl gv237 68 2 (gl238.map TL.row),.sl gv241 68 2 (gl242.map TL.row),.os gc9])) 11 (by kernel_rfl) (Sc.stayD hI) (Sc.atD (sI [1,3,4,6,7,8])) ?_)))))))))))))))
     exact V2.done (by kernel_rfl) (E.jJ ⟨(),gv237,gl238,gv241,gl242,rfl,rfl,hG239,h⟩ hI)
    rintro _ _ ⟨gu27,gv28,gl29,gv30,gl31,rfl,rfl,hG26,h⟩
    rw [M22K5] at h
    refine W.seqJ (fun gs D=>∃ gc32,∃ gu34:Unit,∃ gv35 gl36 gv37 gl38 gv39 gl40,∃ gu42:Unit,gs=[(8,.func (.func 51) #[] #[pt b1 0]),(9,gv10),(10,gv35),(12,pt b15 0),(26,v9),(27,.int .i64 (l8.length:Int)),(28,.int .i64 gx17)]∧D=Cls w [] [.obj b15 [.int .i64 x14.Item,gv37,gv39] 65,.obj b1 [.int .i64 a1] 3,.sl gv10 65 3 (zr TI.rowv gq12 gl11),.sl gv35 3 1 (gl36.map I),.sl v9 65 3 (zr TI.rowv q10 l8),.ss (zsd TI.sds q10 l8 ((gx17+1:Int).toNat)),.sl gv37 68 2 (gl38.map TL.row),.os gc32]∧FzA K gc32 (zs TI.sds gq12 gl11)∧Fz K gc32 gv39 2 (gl40.map TL.row)∧M22K6 gl11 x14 gx17 go1 gl36 gl38 gl40=some r) ?_ ?_
    ·refine W.block (W.frz (i:=7) rfl rfl rfl ?_)
     intro c61 mo62 hf63
     refine W.loopJ (fun m gs D=>∃ gc55,∃ gu57:Unit,∃ gv58 gl59 gv60 gl61 gv62 gl63,∃ gu65:Unit,gs=[(8,.func (.func 51) #[] #[pt b1 0]),(9,gv10),(10,gv58),(12,pt b15 0),(26,v9),(27,.int .i64 (l8.length:Int)),(28,.int .i64 gx17)]∧D=Cls w [] [.obj b15 [.int .i64 x14.Item,gv60,gv62] 65,.obj b1 [.int .i64 a1] 3,.sl gv10 65 3 (zr TI.rowv gq12 gl11),.sl gv58 3 1 (gl59.map I),.sl v9 65 3 (zr TI.rowv q10 l8),.ss (zsd TI.sds q10 l8 ((gx17+1:Int).toNat)),.sl gv60 68 2 (gl61.map TL.row),.os gc55]∧FzA K gc55 (zs TI.sds gq12 gl11)∧Fz K gc55 gv62 2 (gl63.map TL.row)∧M22L2 x14 gl11 gx17 go1 m gl59 gl61 gl63=some r) ⟨c61,(),gv15,gl16,gv28,gl29,gv30,gl31,(),rfl,rfl,(hG26.mo mo62),(hf63 K),h⟩ ⟨rfl,rfl,rfl,rfl,rfl,rfl,rfl,trivial⟩ hI ?_
     rintro m _ _ ⟨gc55,gu57,gv58,gl59,gv60,gl61,gv62,gl63,gu65,rfl,rfl,hG56,hG64,h⟩
     rcases m with _ | m
     ·rw [M22L2] at h;cases h
     rw [M22L2] at h
     generalize hg2:M22L2 x14 gl11 gx17 go1 m=go2 at h
     rw [M22L2B] at h
     refine W.seqJ (fun gs D=>∃ gu67:Unit,gs=[(8,.func (.func 51) #[] #[pt b1 0]),(9,gv10),(10,gv58),(12,pt b15 0),(26,v9),(27,.int .i64 (l8.length:Int)),(28,.int .i64 gx17)]∧D=Cls w [] [.obj b15 [.int .i64 x14.Item,gv60,gv62] 65,.obj b1 [.int .i64 a1] 3,.sl gv10 65 3 (zr TI.rowv gq12 gl11),.sl gv58 3 1 (gl59.map I),.sl v9 65 3 (zr TI.rowv q10 l8),.ss (zsd TI.sds q10 l8 ((gx17+1:Int).toNat)),.sl gv60 68 2 (gl61.map TL.row),.os gc55]∧FzA K gc55 (zs TI.sds gq12 gl11)∧M22K7 gl63 x14 gl61 gl59 go2=some r) ?_ ?_
     ·refine W.seq (W.quietC mixed (by kernel_rfl) (fun _ hw=>hw.drew) (fun hC=>(U.y rfl (Y.fieldP fd65_2 rfl) (U.y rfl (Y.loadP (i:=0) ag63 rfl rfl rfl) (U.y rfl (Y.lenM (g:=TL.row) (l:=gl63) Tryz.underlying63 rfl (fun w' hw=>(hG64.clsP hK hw rfl))) (U.ite h rfl (Y.gtr rfl rfl) (fun c57 h=>?_) (fun c57 h=>?_)))))))
      ·refine U.r 1 rfl (U.take rfl (U.y rfl (Y.loadPW (i:=0) ag65 sz65 rfl rfl rfl) (U.take rfl (U.y rfl (Y.fieldP fd65_2 rfl) (U.take rfl (U.y rfl (Y.loadP (i:=0) ag63 rfl rfl rfl) (U.take rfl (U.m (V:=fun _=>el gv62 ((0:Int).toNat*2)) h rfl (Y.indexM (g:=TL.row) (l:=gl63) Tryz.underlying63 sz68 rfl rfl (fun w' hw=>(hG64.clsP hK hw rfl))) (fun x58 ex58 h=>(U.take rfl (U.y rfl (Y.loadEN (r:=[.int .i64 x58.Tx,.int .i64 x58.Mode]) ag68 sz68 rfl (fun w' hw=>(hG64.clsP hK hw rfl)) (idx_map ex58) rfl) (U.take rfl ?_))))))))))))
       obtain ⟨b59,e60,h⟩:=bind1S h
       refine U.y rfl (Y.does en33 rfl (fun w' hw=>(W33 (⟨x14.Item,gl61,gl63⟩:TI) x58 gv60 gv62 w' _ e60 (As.at_ (hw.get (i:=6) rfl)) (hG64.clsP hK hw rfl)).mono (fun _ _ h=>h.1))) ?_
       rcases b59 with _ | _
       ·replace h:=iteF h
        exact U.r 1 rfl (U.nil (E.thenN (W.condF rfl (W.exit (E.KSX (E.KLX (E.blockX (E.jJ ⟨gc55,(),gv58,gl59,gv60,gl61,gv62,gl63,(),rfl,rfl,hG56,hG64,h⟩ hI))))))))
       replace h:=iteT h
       exact U.r 1 rfl (U.nil (E.thenN (W.condT rfl (W.skip (E.jJ ⟨(),rfl,rfl,hG56,h⟩ hI)))))
      exact U.r 8 rfl (U.nil (E.thenN (W.condF rfl (W.exit (E.KSX (E.KLX (E.blockX (E.jJ ⟨gc55,(),gv58,gl59,gv60,gl61,gv62,gl63,(),rfl,rfl,hG56,hG64,h⟩ hI))))))))
     rintro _ _ ⟨gu67,rfl,rfl,hG66,h⟩
     rw [M22K7] at h
     refine W.block (sr (L.y rfl (Y.fieldP fd65_2 rfl) (L.y rfl (Y.loadP (i:=0) ag63 rfl rfl rfl) (L.m (V:=fun _=>el gv62 ((0:Int).toNat*2)) h rfl (Y.indexM (g:=TL.row) (l:=gl63) Tryz.underlying63 sz68 rfl rfl (fun w' hw=>(hG64.clsP hK hw rfl))) (fun x27 ex27 h=>(L.y rfl (Y.loadEN (r:=[.int .i64 x27.Tx,.int .i64 x27.Mode]) ag68 sz68 rfl (fun w' hw=>(hG64.clsP hK hw rfl)) (idx_map ex27) rfl) (L.callJ (fun v D=>∃ gu69:Unit,∃ gv70 gl71,v=.tuple #[]∧D=Cls w [] [.obj b15 [.int .i64 x14.Item,gv70,gv62] 65,.obj b1 [.int .i64 a1] 3,.sl gv10 65 3 (zr TI.rowv gq12 gl11),.sl gv58 3 1 (gl59.map I),.sl v9 65 3 (zr TI.rowv q10 l8),.ss (zsd TI.sds q10 l8 ((gx17+1:Int).toNat)),.sl gv70 68 2 (gl71.map TL.row),.os gc55]∧FzA K gc55 (zs TI.sds gq12 gl11)∧M22K8 gl63 gl59 go2 gl71=some r) rfl en34 rfl Tryz.func34 rfl rfl rfl ?_ ?_)))))))
     ·refine sr (L.box rfl rfl ?_)
      intro b33
      refine ln (W.seq (W.quietC mixed (by kernel_rfl) (fun _ hw=>hw.drew) (fun hC=>(U.r 2 rfl (U.y rfl (Y.loadPW (i:=1) ag65 sz65 rfl rfl rfl) (U.y rfl (Y.loadPW (i:=0) ag68 sz68 rfl rfl rfl) ?_))))))
      obtain ⟨x34,e35,h⟩:=bind1S h
      refine U.y rfl (Y.does en57 rfl (fun w' hw=>(W57 (⟨x14.Item,gl61,gl63⟩:TI) x27 gv60 gv62 w' _ e35 (As.at_ (hw.get (i:=7) rfl)) (hG64.clsP hK hw rfl)).mono (fun _ _ h=>h.1))) (U.r 1 rfl (U.nil (E.thenN (W.seqJ (fun gs D=>∃ gu73:Unit,gs=[(0,pt b15 0),(3,pt b33 0),(4,.int .i64 x34)]∧D=Cls w [] [.obj b33 [.int .i64 x27.Tx,.int .i64 x27.Mode] 68,.obj b15 [.int .i64 x14.Item,gv60,gv62] 65,.obj b1 [.int .i64 a1] 3,.sl gv60 68 2 (gl61.map TL.row),.sl gv10 65 3 (zr TI.rowv gq12 gl11),.sl gv58 3 1 (gl59.map I),.sl v9 65 3 (zr TI.rowv q10 l8),.ss (zsd TI.sds q10 l8 ((gx17+1:Int).toNat)),.os gc55]∧FzA K gc55 (zs TI.sds gq12 gl11)∧M22K9 gl61 x27 x34 gl63 gl59 go2=some r) ?_ ?_))))
      ·refine sr (L.r 2 rfl (L.y rfl (Y.fieldP fd65_1 rfl) (L.y rfl (Y.loadP (i:=1) ag63 rfl rfl rfl) (L.y rfl (Y.lenM (g:=TL.row) (l:=gl61) Tryz.underlying63 rfl (fun w hw=>As.at_ (hw.get (i:=7) rfl))) (L.r 1 rfl (ln (W.block (W.loopJ (fun m gs D=>∃ gx76,∃ gu78:Unit,gs=[(0,pt b15 0),(3,pt b33 0),(4,.int .i64 x34),(15,.int .i64 (gl61.length:Int)),(16,.int .i64 gx76)]∧D=Cls w [] [.obj b33 [.int .i64 x27.Tx,.int .i64 x27.Mode] 68,.obj b15 [.int .i64 x14.Item,gv60,gv62] 65,.obj b1 [.int .i64 a1] 3,.sl gv60 68 2 (gl61.map TL.row),.sl gv10 65 3 (zr TI.rowv gq12 gl11),.sl gv58 3 1 (gl59.map I),.sl v9 65 3 (zr TI.rowv q10 l8),.ss (zsd TI.sds q10 l8 ((gx17+1:Int).toNat)),.os gc55]∧FzA K gc55 (zs TI.sds gq12 gl11)∧M22L3 gl61 x27 x34 gl63 gl59 go2 m gx76=some r) ⟨0,(),rfl,rfl,hG66,h⟩ ⟨rfl,rfl,rfl,rfl,rfl,trivial⟩ (sI [0,1,2,7,3,4,5,6,8]) ?_))))))))
       rintro m _ _ ⟨gx76,gu78,rfl,rfl,hG77,h⟩
       rcases m with _ | m
       ·rw [M22L3] at h;cases h
       rw [M22L3] at h
       generalize hg3:M22L3 gl61 x27 x34 gl63 gl59 go2 m=go3 at h
       rw [M22L3B] at h
       refine sr (L.ite h rfl (Y.lss rfl rfl) (fun c51 h=>?_) (fun c51 h=>?_))
       ·refine ln (W.seq (W.condT rfl (W.skip (E.thenN (W.seq (W.block (sr (L.r 2 rfl (ln (W.seq ?_))))))))))
        refine W.quietC mixed (by kernel_rfl) (fun _ hw=>hw.drew) (fun hC=>(U.r 2 rfl (U.y rfl (Y.fieldP fd65_1 rfl) (U.y rfl (Y.loadP (i:=1) ag63 rfl rfl rfl) (U.r 1 rfl (U.m (V:=fun _=>el gv60 (gx76.toNat*2)) h rfl (Y.indexM (g:=TL.row) (l:=gl61) Tryz.underlying63 sz68 rfl rfl (fun w hw=>As.at_ (hw.get (i:=3) rfl))) (fun x52 ex52 h=>(U.y rfl (Y.fieldE fd68_0 rfl) (U.y rfl (Y.loadE (u:=.int .i64 x52.Tx) ag3 rfl (fun w hw=>As.at_ (hw.get (i:=3) rfl)) (idx_map ex52) rfl) (U.y rfl (Y.fieldP fd68_0 rfl) (U.y rfl (Y.loadP (i:=0) ag3 rfl rfl rfl) (U.ite h rfl (Y.eql rfl rfl) (fun c53 h=>?_) (fun c53 h=>?_)))))))))))))
        ·refine U.nil (E.thenN (W.condT rfl (sr (L.r 2 rfl (L.y rfl (Y.fieldP fd65_1 rfl) (L.y rfl (Y.loadP (i:=1) ag63 rfl rfl rfl) (L.r 2 rfl (L.m (V:=fun _=>el gv60 (gx76.toNat*2)) h rfl (Y.indexM (g:=TL.row) (l:=gl61) Tryz.underlying63 sz68 rfl rfl (fun w hw=>As.at_ (hw.get (i:=3) rfl))) (fun x54 ex54 h=>(L.y rfl (Y.fieldE fd68_1 rfl) (L.storeSlM (q:=3) (row:=TL.row) (vs:=[.int .i64 x34]) (j:=1) (u1:=(⟨x54.Tx,x34⟩:TL)) h sz3 rfl rfl rfl rfl rfl (all1 rfl all0) rfl ex54 rfl rfl ?_)))))))))))
         intro l55 el55 h
         exact ln (W.ret (E.blockR (E.thenR (E.KLR (E.blockR (E.KSR (E.ret0 rfl (fun w1 hw=>(⟨_,_,rfl,⟨(),gv60,l55,rfl,rfl,hG77,h⟩,hw.s [1,2,4,5,6,7,3,8]⟩)))))))))
        exact U.nil (E.thenN (W.condF rfl (W.skip (E.blockN (E.thenN (W.region (L.m (V:=fun x56=>.int .i64 x56) h rfl (Y.addM rfl rfl) (fun x56 ex56 h=>(L.r 1 rfl (L.nil (E.aJ ⟨x56,(),rfl,rfl,hG77,by rw [hg3];exact h⟩ hI)))))))))))
       exact ln (W.seq (W.condF rfl (W.exit (E.thenX (E.KLX (E.blockX (E.jJ ⟨(),rfl,rfl,hG77,h⟩ hI)))))))
      rintro _ _ ⟨gu73,rfl,rfl,hG72,h⟩
      rw [M22K9] at h
      refine W.drawn2 (k:=14) (stC [[10,13],[13]] [Cls w [] [.obj b33 [.int .i64 x27.Tx,.int .i64 x27.Mode] 68,.obj b15 [.int .i64 x14.Item,gv60,gv62] 65,.obj b1 [.int .i64 a1] 3,.sl gv60 68 2 (gl61.map TL.row),.sl gv10 65 3 (zr TI.rowv gq12 gl11),.sl gv58 3 1 (gl59.map I),.sl v9 65 3 (zr TI.rowv q10 l8),.ss (zsd TI.sds q10 l8 ((gx17+1:Int).toNat)),.os gc55],Cls w [] [.obj b33 [.int .i64 x27.Tx,.int .i64 x27.Mode] 68,.obj b15 [.int .i64 x14.Item,gv60,gv62] 65,.obj b1 [.int .i64 a1] 3,.sl gv10 65 3 (zr TI.rowv gq12 gl11),.sl gv58 3 1 (gl59.map I),.sl v9 65 3 (zr TI.rowv q10 l8),.ss (zsd TI.sds q10 l8 ((gx17+1:Int).toNat)),.os gc55]] (Cls w [] [.obj b33 [.int .i64 x27.Tx,.int .i64 x27.Mode] 68,.obj b1 [.int .i64 a1] 3,.sl gv10 65 3 (zr TI.rowv gq12 gl11),.sl gv58 3 1 (gl59.map I),.sl v9 65 3 (zr TI.rowv q10 l8),.ss (zsd TI.sds q10 l8 ((gx17+1:Int).toNat)),.os gc55])) rfl mixed (fun _ hw=>hw.drew) (Sc.now (by kernel_rfl) hI) (V2.zz [] (Zc.on' (Zc.on' (Zc.fin hI) (sI [0,2,3,4,5,6,7])) (sI [0,2,4,5,6,7,8])) (fun hz45=>(V2.r [0,1,2] (by kernel_rfl) rfl (V2.q 3 [] hz45 rfl rfl (Y.fieldP fd65_1 rfl) (V2.zz [13] (Zc.on' (Zc.at1 hI) (sI [0,1,2,4,5,6,7,8])) (fun hz46=>(V2.q 4 [13] hz46 rfl rfl (Y.loadP (i:=1) ag63 rfl rfl rfl) (V2.q 5 [] hz45 rfl rfl (Y.fieldP fd68_0 rfl) (V2.q 6 [] hz45 rfl rfl (Y.loadP (i:=0) ag3 rfl rfl rfl) (V2.r [7] (by kernel_rfl) rfl (V2.q 8 [] hz45 rfl rfl (Y.build (cells:=#[.int .i64 x27.Tx,.int .i64 x34]) rfl (by kernel_rfl)) (V2.eff (i:=9) (by kernel_rfl) rfl (L.litAgg rfl Tryz.underlying63 eL68 rfl rfl rfl ?_)))))))))))))
      intro b47
      refine L.nil (E.toV2 (stC [[10,13],[13]] [Cls w [] [.sl (sv b47 1) 68 2 (([(⟨x27.Tx,x34⟩:TL)]).map TL.row),.obj b33 [.int .i64 x27.Tx,.int .i64 x27.Mode] 68,.obj b15 [.int .i64 x14.Item,gv60,gv62] 65,.obj b1 [.int .i64 a1] 3,.sl gv60 68 2 (gl61.map TL.row),.sl gv10 65 3 (zr TI.rowv gq12 gl11),.sl gv58 3 1 (gl59.map I),.sl v9 65 3 (zr TI.rowv q10 l8),.ss (zsd TI.sds q10 l8 ((gx17+1:Int).toNat)),.os gc55],Cls w [] [.sl (sv b47 1) 68 2 (([(⟨x27.Tx,x34⟩:TL)]).map TL.row),.obj b33 [.int .i64 x27.Tx,.int .i64 x27.Mode] 68,.obj b15 [.int .i64 x14.Item,gv60,gv62] 65,.obj b1 [.int .i64 a1] 3,.sl gv10 65 3 (zr TI.rowv gq12 gl11),.sl gv58 3 1 (gl59.map I),.sl v9 65 3 (zr TI.rowv q10 l8),.ss (zsd TI.sds q10 l8 ((gx17+1:Int).toNat)),.os gc55]] (Cls w [] [.sl (sv b47 1) 68 2 (([(⟨x27.Tx,x34⟩:TL)]).map TL.row),.obj b33 [.int .i64 x27.Tx,.int .i64 x27.Mode] 68,.obj b1 [.int .i64 a1] 3,.sl gv10 65 3 (zr TI.rowv gq12 gl11),.sl gv58 3 1 (gl59.map I),.sl v9 65 3 (zr TI.rowv q10 l8),.ss (zsd TI.sds q10 l8 ((gx17+1:Int).toNat)),.os gc55])) 9 (by kernel_rfl) (Sc.stay (sI [1,2,3,4,5,6,7,8,9]) (Sc.stay (sI [1,2,3,4,5,6,7,8]) (Sc.stayD (sI [1,2,3,4,5,6,7])))) (Sc.now (by kernel_rfl) hI) (V2.eff (i:=10) (by kernel_rfl) rfl (L.appM (i:=4) (g:=TL.row) (l:=gl61) (more:=[(⟨x27.Tx,x34⟩:TL)]) h rfl Tryz.underlying63 eL68 rfl rfl rfl (fun w hw=>As.at_ (hw.get (i:=0) rfl)) (plain_TLock _) rfl ?_)))
      intro v48 l49 el49 h
      exact L.nil (E.toV2 (stC [[13]] [Cls w [] [.sl v48 68 2 (l49.map TL.row),.sl (sv b47 1) 68 2 (([(⟨x27.Tx,x34⟩:TL)]).map TL.row),.obj b33 [.int .i64 x27.Tx,.int .i64 x27.Mode] 68,.obj b15 [.int .i64 x14.Item,gv60,gv62] 65,.obj b1 [.int .i64 a1] 3,.sl gv10 65 3 (zr TI.rowv gq12 gl11),.sl gv58 3 1 (gl59.map I),.sl v9 65 3 (zr TI.rowv q10 l8),.ss (zsd TI.sds q10 l8 ((gx17+1:Int).toNat)),.os gc55]] (Cls w [] [.sl v48 68 2 (l49.map TL.row),.sl (sv b47 1) 68 2 (([(⟨x27.Tx,x34⟩:TL)]).map TL.row),.obj b33 [.int .i64 x27.Tx,.int .i64 x27.Mode] 68,.obj b1 [.int .i64 a1] 3,.sl gv10 65 3 (zr TI.rowv gq12 gl11),.sl gv58 3 1 (gl59.map I),.sl v9 65 3 (zr TI.rowv q10 l8),.ss (zsd TI.sds q10 l8 ((gx17+1:Int).toNat)),.os gc55])) 10 (by kernel_rfl) (Sc.past rfl (Sc.stay (sI [1,2,3,4,5,6,7,8,9]) (Sc.stayD (sI [1,2,3,4,5,6,7,8])))) (Sc.now (by kernel_rfl) hI) (V2.zz [] (Zc.on' (Zc.fin hI) (sI [0,1,2,4,5,6,7,8,9])) (fun hz50=>(V2.r [11] (by kernel_rfl) rfl (V2.q 12 [] hz50 rfl rfl (Y.fieldP fd65_1 rfl) (V2.eff (i:=13) (by kernel_rfl) rfl (L.storeV (i:=3) sz63 rfl rfl (fun _ hw=>(As.at_ (hw.get (i:=0) rfl)).one) rfl nb (L.nil (E.toV2 (stC [] [] (Cls w [] [.sl v48 68 2 (l49.map TL.row),.sl (sv b47 1) 68 2 (([(⟨x27.Tx,x34⟩:TL)]).map TL.row),.obj b33 [.int .i64 x27.Tx,.int .i64 x27.Mode] 68,.obj b1 [.int .i64 a1] 3,.sl gv10 65 3 (zr TI.rowv gq12 gl11),.sl gv58 3 1 (gl59.map I),.sl v9 65 3 (zr TI.rowv q10 l8),.ss (zsd TI.sds q10 l8 ((gx17+1:Int).toNat)),.os gc55])) 13 (by kernel_rfl) (Sc.past rfl (Sc.stayD hI)) (Sc.atD (sI [0,1,2,4,5,6,7,8,9])) (V2.done (by kernel_rfl) (E.end0 rfl (fun w1 hw=>(⟨_,_,rfl,⟨(),v48,l49,rfl,rfl,hG72,h⟩,hw.s [3,4,5,6,7,8,0,9]⟩)))))))))))))
     rintro _ _ ⟨gu69,gv70,gl71,rfl,rfl,hG68,h⟩
     rw [M22K8] at h
     refine nsr (L.r 1 rfl (L.y rfl (Y.fieldP fd65_2 rfl) (L.y rfl (Y.loadP (i:=0) ag63 rfl rfl rfl) (L.m (V:=fun _=>el gv62 ((0:Int).toNat*2)) h rfl (Y.indexM (g:=TL.row) (l:=gl63) Tryz.underlying63 sz68 rfl rfl (fun w' hw=>(hG64.clsP hK hw rfl))) (fun x28 ex28 h=>(L.y rfl (Y.fieldE fd68_0 rfl) (L.y rfl (Y.loadE (u:=.int .i64 x28.Tx) ag3 rfl (fun w' hw=>(hG64.clsP hK hw rfl)) (idx_map ex28) rfl) (L.litOne rfl Tryz.underlying23 eL3 rfl rfl ?_))))))))
     intro b29
     refine L.appM (i:=4) (g:=I) (l:=gl59) (more:=[x28.Tx]) h rfl Tryz.underlying23 eL3 rfl rfl rfl (fun w hw=>As.at_ (hw.get (i:=0) rfl)) (plain_ints _) rfl ?_
     intro v30 l31 el31 h
     exact L.r 1 rfl (nr (L.y rfl (Y.fieldP fd65_2 rfl) (L.y rfl (Y.loadP (i:=2) ag63 rfl rfl rfl) (L.m (V:=fun _=>dropv gv62 (1:Int).toNat 2) h rfl (Y.dropM (g:=TL.row) Tryz.underlying63 sz68 rfl rfl (fun w' hw=>(hG64.clsP hK hw rfl))) (fun l32 el32 h=>(L.y rfl (Y.fieldP fd65_2 rfl) (L.storeV (i:=2) sz63 rfl rfl (fun _ hw=>((hG64.dropM el32).clsP hK hw rfl).one) rfl nb (L.nil (E.blockN (E.aJ ⟨gc55,(),v30,l31,gv70,gl71,dropv gv62 (1:Int).toNat 2,l32,(),rfl,rfl,hG68,(hG64.dropM el32),by rw [hg2];exact h⟩ (sI [2,3,4,0,5,6,7,8])))))))))))
    rintro _ _ ⟨gc32,gu34,gv35,gl36,gv37,gl38,gv39,gl40,gu42,rfl,rfl,hG33,hG41,h⟩
    rw [M22K6] at h
    refine sr (L.y rfl (Y.fieldP fd65_1 rfl) (L.y rfl (Y.loadP (i:=0) ag63 rfl rfl rfl) (L.y rfl (Y.lenM (g:=TL.row) (l:=gl38) Tryz.underlying63 rfl (fun w hw=>As.at_ (hw.get (i:=6) rfl))) (L.ite h rfl (Y.gtr rfl rfl) (fun c16 h=>?_) (fun c16 h=>?_)))))
    ·refine ln (W.condT rfl (W.region (L.r 1 rfl (L.y rfl (Y.loadPW (i:=0) ag65 sz65 rfl rfl rfl) (L.frz (i:=6) rfl rfl rfl ?_)))))
     intro c18 mo19 hf20
     refine L.litAgg rfl Tryz.underlying34 eL65 rfl rfl rfl ?_
     intro b21
     have hz22:FzA K c18 (zs TI.sds (fun _=>[gv37,gv39]) [(⟨x14.Item,gl38,gl40⟩:TI)]):=FzA.app (FzA.cons (hf20 K) (FzA.cons (hG41.mo mo19) FzA.nil)) FzA.nil
     refine L.to (D:=Cls w [] [.sl (sv b21 1) 65 3 (zr TI.rowv (fun _=>[gv37,gv39]) ([(⟨x14.Item,gl38,gl40⟩:TI)])),.obj b15 [.int .i64 x14.Item,gv37,gv39] 65,.obj b1 [.int .i64 a1] 3,.sl gv10 65 3 (zr TI.rowv gq12 gl11),.sl gv35 3 1 (gl36.map I),.sl v9 65 3 (zr TI.rowv q10 l8),.ss (zsd TI.sds q10 l8 ((gx17+1:Int).toNat)),.os c18]) hI (L.appHzP (i:=3) (row:=TI.rowv) (sds:=TI.sds) (vs:=gq12) (vs2:=(fun _=>[gv37,gv39])) (l:=gl11) (l2:=[(⟨x14.Item,gl38,gl40⟩:TI)]) h rfl Tryz.underlying34 eL65 rfl rfl rfl rfl (fun w hw=>As.at_ (hw.get (i:=0) rfl)) plz_TLockItem hK rfl (hG33.mo mo19) hz22 ?_)
     intro v24 q25 l23 el23 h hz26
     exact L.r 1 rfl (L.nil (E.blockN (E.jJ ⟨c18,v24,l23,q25,(),gv35,gl36,rfl,rfl,hz26,h⟩ (sI [3,0,4,5,6,7]))))
    exact ln (W.condF rfl (W.skip (E.blockN (E.jJ ⟨gc32,gv10,gl11,gq12,(),gv35,gl36,rfl,rfl,hG33,h⟩ (sI [1,2,3,4,5,7])))))
   rintro _ _ ⟨gc18,gv19,gl20,gq21,gu23,gv24,gl25,rfl,rfl,hG22,h⟩
   rw [M22K4] at h
   exact W.region (L.m (V:=fun x13=>.int .i64 x13) h rfl (Y.addM rfl rfl) (fun x13 ex13 h=>(L.r 1 rfl (L.nil (E.frmLe (sds:=TI.sds) (vs:=q10) (l:=l8) (s:=4) (j:=((gx17+1:Int).toNat)) (j':=(x13.toNat)) rfl (by have h9:=i64_some ex13;omega) (E.aJ ⟨gc18,gv19,gl20,gq21,(),gv24,gl25,x13,rfl,rfl,hG22,by rw [hg1];exact h⟩ hI))))))
  exact ln (W.seq (W.condF rfl (W.exit (E.thenX (E.KLX (E.blockX (E.jJ ⟨gc9,gv10,gl11,gq12,(),gv15,gl16,rfl,rfl,hG13,h⟩ (sI [1,2,5]))))))))
 rintro _ _ ⟨gc1,gv2,gl3,gq4,gu6,gv7,gl8,rfl,rfl,hG5,h⟩
 rw [M22K3] at h
 refine sr (L.r 5 rfl (ln (W.ret (E.frz (i:=0) rfl rfl rfl ?_))))
 intro c2 mo3 hf4
 refine E.frz (i:=0) rfl rfl rfl ?_
 intro c5 mo6 hf7
 refine E.ret3 rfl rfl rfl rfl (fun w1 hw=>?_)
 cases h
 exact ⟨_,_,rfl,⟨c5,rfl,gv2,gq4,gv7,rfl,((hf4 K).mo mo6),((hG5.mo mo3).mo mo6),(hf7 K)⟩,hw⟩
set_option maxRecDepth 100000 in
set_option maxHeartbeats 8000000 in
theorem W23 (rec:(List TI)→(List (List TOp))→(List Bool)→(List TOp)→TOp→Option ((List TI)×(List (List TOp))×(List Bool)×(List TOp))) (ih:∀ (kI:(List TI)) (kA:(List (List TOp))) (kB:(List Bool)) (kD:(List TOp)) (a1:TOp) (pb0:Nat) (kH:Value) (kN:Nat→List Value) (kG:Nat→List Value) (kC:Value) (K:World→Prop) (w:World) (r:((List TI)×(List (List TOp))×(List Bool)×(List TOp))) (h:rec kI kA kB kD a1=some r) (F:List Nat) (hK:StbF K w F) (hA0_locks:Fz K [] kH 3 (zr TI.rowv kN kI)) (hD0_locks:FzA K [] (zs TI.sds kN kI)) (hc0:Cls w F [.obj pb0 (List.flatten [[kH],(zr svRow kG kA).flatten,(zr (fzr B) (fun _=>[]) kB).flatten,[kC]]) 38,.ss (zs (svSd 40 3 TOp.row) kG kA),.ss (zs sd0 (fun _=>[]) kB),.sl kC 40 3 (kD.map TOp.row)] w),DoesF Tryz.prog 9 [pt pb0 0,.agg #[.int .i64 a1.Tx,.int .i64 a1.Kind,.int .i64 a1.Item]] F w fun u m=>∃ c,∃ y1 z1 z2 y4,u=.tuple #[]∧Fz K c y1 3 (zr TI.rowv z1 r.1)∧FzA K c (zs TI.sds z1 r.1)∧m=[.obj pb0 (List.flatten [[y1],(zr svRow z2 r.2.1).flatten,(zr (fzr B) (fun _=>[]) r.2.2.1).flatten,[y4]]) 38,.ss (zs (svSd 40 3 TOp.row) z2 r.2.1),.ss (zs sd0 (fun _=>[]) r.2.2.1),.sl y4 40 3 (r.2.2.2.map TOp.row),.os c]) (kI:(List TI)) (kA:(List (List TOp))) (kB:(List Bool)) (kD:(List TOp)) (a1:Int) (pb0:Nat) (kH:Value) (kN:Nat→List Value) (kG:Nat→List Value) (kC:Value) (K:World→Prop) (w:World) (r:((List TI)×(List (List TOp))×(List Bool)×(List TOp))) (h:M23 rec kI kA kB kD a1=some r) (F:List Nat) (hK:StbF K w F) (hA0_locks:Fz K [] kH 3 (zr TI.rowv kN kI)) (hD0_locks:FzA K [] (zs TI.sds kN kI)) (hc0:Cls w F [.obj pb0 (List.flatten [[kH],(zr svRow kG kA).flatten,(zr (fzr B) (fun _=>[]) kB).flatten,[kC]]) 38,.ss (zs (svSd 40 3 TOp.row) kG kA),.ss (zs sd0 (fun _=>[]) kB),.sl kC 40 3 (kD.map TOp.row)] w):DoesF Tryz.prog 23 [pt pb0 0,.int .i64 a1] F w fun u m=>∃ c,∃ y1 z1 z2 y4,u=.tuple #[]∧Fz K c y1 3 (zr TI.rowv z1 r.1)∧FzA K c (zs TI.sds z1 r.1)∧m=[.obj pb0 (List.flatten [[y1],(zr svRow z2 r.2.1).flatten,(zr (fzr B) (fun _=>[]) r.2.2.1).flatten,[y4]]) 38,.ss (zs (svSd 40 3 TOp.row) z2 r.2.1),.ss (zs sd0 (fun _=>[]) r.2.2.1),.sl y4 40 3 (r.2.2.2.map TOp.row),.os c]:=by
 rw [M23] at h
 refine body (n:=46) (C:=Cls w F [.obj pb0 (List.flatten [[kH],(zr svRow kG kA).flatten,(zr (fzr B) (fun _=>[]) kB).flatten,[kC]]) 38,.ss (zs (svSd 40 3 TOp.row) kG kA),.ss (zs sd0 (fun _=>[]) kB),.sl kC 40 3 (kD.map TOp.row),.os []]) Tryz.func23 rfl rfl rfl hc0.osNil (W.seq (W.drawn2 (k:=18) (stC [[14,17],[17]] [Cls w F [.obj pb0 (List.flatten [[kH],(zr svRow kG kA).flatten,(zr (fzr B) (fun _=>[]) kB).flatten,[kC]]) 38,.ss (zs (svSd 40 3 TOp.row) kG kA),.ss (zs sd0 (fun _=>[]) kB),.sl kC 40 3 (kD.map TOp.row),.os []],Cls w F [.obj pb0 (List.flatten [[kH],(zr svRow kG kA).flatten,(zr (fzr B) (fun _=>[]) kB).flatten,[kC]]) 38,.ss (zs (svSd 40 3 TOp.row) kG kA),.ss (zs sd0 (fun _=>[]) kB),.os []]] (Cls w F [.ss (zs (svSd 40 3 TOp.row) kG kA),.ss (zs sd0 (fun _=>[]) kB),.os []])) rfl mixed (fun _ hw=>hw.drew) (Sc.now (by kernel_rfl) hI) (V2.zz [] (Zc.on' (Zc.on' (Zc.fin hI) (sI [1,2,3])) (sI [1,2,4])) (fun hz18=>(V2.r [0,1,2] (by kernel_rfl) rfl (V2.q 3 [] hz18 rfl rfl (Y.fieldP fd38_3 rfl) (V2.zz [17] (Zc.on' (Zc.at1 hI) (sI [0,1,2,4])) (fun hz19=>?_))))))))
 obtain ⟨_,en20,h⟩:=bind1S h
 obtain ⟨_,en20⟩:=arrN_some en20
 obtain ⟨_,en21,h⟩:=bind1S h
 obtain ⟨_,en21⟩:=arrN_some en21
 refine V2.q 4 [17] hz19 rfl rfl (Y.loadG (q:=0) (si:=3) (ps:=25) (j:=0) (X:=[kC]) ag22 rfl rfl rfl rfl (sl1 (a:=1) (p:=24) rfl (sl1 (a:=12) (p:=12) (zrN (nn:=12) (k:=1) (fun _ _=>rfl) en20) (sl1 (a:=12) (p:=0) (zrN (nn:=12) (k:=1) (fun _ _=>rfl) en21) sl0))) rfl) (V2.r [5,6,7] (by kernel_rfl) rfl (V2.q 8 [] hz18 rfl rfl (Y.fieldP fd38_1 rfl) (V2.m (i:=9) (V':=fun _=>pt pb0 (1+a1.toNat*1)) h (Nx2.of [17] (by kernel_rfl) rfl hz19) rfl rfl rfl (Y.indexAS (l:=kA) Tryz.underlying35 sz22 rfl rfl) (fun x22 ex22 h=>(V2.q 10 [17] hz19 rfl rfl (Y.loadZg (si:=1) (ps:=1) (q:=0) (row:=svRow) (vs:=kG) (j:=0) (pv:=gv (kG a1.toNat) 0) ag22 rfl rfl rfl rfl (sl1 (a:=1) (p:=0) rfl sl0) (fun _ _=>rfl) (idxA_idx ex22) rfl) (V2.m (i:=11) (V':=fun _=>el (gv (kG a1.toNat) 0) ((0:Int).toNat*3)) h (Nx2.of [] (by kernel_rfl) rfl hz18) rfl rfl rfl (Y.indexM (g:=TOp.row) (l:=x22) Tryz.underlying22 sz40 rfl rfl (fun w hw=>As.atZ (sds:=(svSd 40 3 TOp.row)) (vs:=kG) (j:=0) (c:=1) (hw.get (i:=0) rfl) (fun _ _=>rfl) (idxA_idx ex22) rfl)) (fun x23 ex23 h=>(V2.q 12 [] hz18 rfl rfl (Y.loadEN (r:=[.int .i64 x23.Tx,.int .i64 x23.Kind,.int .i64 x23.Item]) ag40 sz40 rfl (fun w hw=>As.atZ (sds:=(svSd 40 3 TOp.row)) (vs:=kG) (j:=0) (c:=1) (hw.get (i:=0) rfl) (fun _ _=>rfl) (idxA_idx ex22) rfl) (idx_map ex23) rfl) (V2.eff (i:=13) (by kernel_rfl) rfl (L.litAgg rfl Tryz.underlying22 eL40 rfl rfl rfl ?_))))))))))
 intro b24
 refine L.nil (E.toV2 (stC [[14,17],[17]] [Cls w F [.sl (sv b24 1) 40 3 (([x23]).map TOp.row),.obj pb0 (List.flatten [[kH],(zr svRow kG kA).flatten,(zr (fzr B) (fun _=>[]) kB).flatten,[kC]]) 38,.ss (zs (svSd 40 3 TOp.row) kG kA),.ss (zs sd0 (fun _=>[]) kB),.sl kC 40 3 (kD.map TOp.row),.os []],Cls w F [.sl (sv b24 1) 40 3 (([x23]).map TOp.row),.obj pb0 (List.flatten [[kH],(zr svRow kG kA).flatten,(zr (fzr B) (fun _=>[]) kB).flatten,[kC]]) 38,.ss (zs (svSd 40 3 TOp.row) kG kA),.ss (zs sd0 (fun _=>[]) kB),.os []]] (Cls w F [.sl (sv b24 1) 40 3 (([x23]).map TOp.row),.ss (zs (svSd 40 3 TOp.row) kG kA),.ss (zs sd0 (fun _=>[]) kB),.os []])) 13 (by kernel_rfl) (Sc.stay (sI [1,2,3,4,5]) (Sc.stay (sI [1,2,3,4]) (Sc.stayD (sI [1,2,3])))) (Sc.now (by kernel_rfl) hI) (V2.eff (i:=14) (by kernel_rfl) rfl (L.appM (i:=4) (g:=TOp.row) (l:=kD) (more:=[x23]) h rfl Tryz.underlying22 eL40 rfl rfl rfl (fun w hw=>As.at_ (hw.get (i:=0) rfl)) (plain_TOp _) rfl ?_)))
 intro v25 l26 el26 h
 refine L.nil (E.toV2 (stC [[17]] [Cls w F [.sl v25 40 3 (l26.map TOp.row),.sl (sv b24 1) 40 3 (([x23]).map TOp.row),.obj pb0 (List.flatten [[kH],(zr svRow kG kA).flatten,(zr (fzr B) (fun _=>[]) kB).flatten,[kC]]) 38,.ss (zs (svSd 40 3 TOp.row) kG kA),.ss (zs sd0 (fun _=>[]) kB),.os []]] (Cls w F [.sl v25 40 3 (l26.map TOp.row),.sl (sv b24 1) 40 3 (([x23]).map TOp.row),.ss (zs (svSd 40 3 TOp.row) kG kA),.ss (zs sd0 (fun _=>[]) kB),.os []])) 14 (by kernel_rfl) (Sc.past rfl (Sc.stay (sI [1,2,3,4,5]) (Sc.stayD (sI [1,2,3,4])))) (Sc.now (by kernel_rfl) hI) (V2.zz [] (Zc.on' (Zc.fin hI) (sI [0,1,3,4,5])) (fun hz27=>(V2.r [15] (by kernel_rfl) rfl (V2.q 16 [] hz27 rfl rfl (Y.fieldP fd38_3 rfl) (V2.eff (i:=17) (by kernel_rfl) rfl (L.storeGV (q:=2) (si:=3) (ps:=25) (j:=0) (X:=[kC]) sz22 rfl rfl rfl (fun _ hw=>(As.at_ (hw.get (i:=0) rfl)).one) rfl rfl (sl1 (a:=1) (p:=24) rfl (sl1 (a:=12) (p:=12) (zrN (nn:=12) (k:=1) (fun _ _=>rfl) en20) (sl1 (a:=12) (p:=0) (zrN (nn:=12) (k:=1) (fun _ _=>rfl) en21) sl0))) rfl (L.nil (E.toV2 (stC [] [] (Cls w F [.sl v25 40 3 (l26.map TOp.row),.sl (sv b24 1) 40 3 (([x23]).map TOp.row),.ss (zs (svSd 40 3 TOp.row) kG kA),.ss (zs sd0 (fun _=>[]) kB),.os []])) 17 (by kernel_rfl) (Sc.past rfl (Sc.stayD hI)) (Sc.atD (sI [0,1,3,4,5])) (V2.done (by kernel_rfl) (E.thenN (sr (L.r 3 rfl ?_)))))))))))))
 refine L.y rfl (Y.fieldP fd38_1 rfl) (L.m (V:=fun _=>pt pb0 (1+a1.toNat*1)) h rfl (Y.indexAS (l:=kA) Tryz.underlying35 sz22 rfl rfl) (fun x28 ex28 h=>(L.y rfl (Y.loadZg (si:=1) (ps:=1) (q:=2) (row:=svRow) (vs:=kG) (j:=0) (pv:=gv (kG a1.toNat) 0) ag22 rfl rfl rfl rfl (sl1 (a:=1) (p:=0) rfl sl0) (fun _ _=>rfl) (idxA_idx ex28) rfl) (L.ssOut (sds:=(svSd 40 3 TOp.row)) (vs:=kG) (s:=3) (j:=0) (c:=1) rfl (fun _ _=>rfl) (idxA_idx ex28) rfl (L.m (V:=fun _=>dropv (gv (kG a1.toNat) 0) (1:Int).toNat 3) h rfl (Y.dropM (g:=TOp.row) Tryz.underlying22 sz40 rfl rfl (fun w hw=>As.at_ (hw.get (i:=0) rfl))) (fun l29 el29 h=>(L.r 1 rfl (nsr (L.r 3 rfl (L.y rfl (Y.fieldP fd38_1 rfl) (L.m (V:=fun _=>pt pb0 (1+a1.toNat*1)) h rfl (Y.indexAS (l:=kA) Tryz.underlying35 sz22 rfl rfl) (fun x30 ex30 h=>(L.nilSl 40 3 ?_)))))))))))))
 refine L.storeZSg (si:=1) (ps:=1) (row:=svRow) (sds:=(svSd 40 3 TOp.row)) (vs:=kG) (q:=4) (p:=0) (s:=5) (c:=1) (jj:=0) (u1:=[]) (v1:=[(.slice none 0 0)]) (j:=0) h sz22 rfl rfl rfl rfl rfl (sl1 (a:=1) (p:=0) rfl sl0) rfl rfl (.inr rfl) (fun _ _=>rfl) (fun _ _=>rfl) (idxA_idx ex30) rfl rfl rfl rfl ?_
 intro l31 q32 el31 h
 refine nsr (L.r 1 rfl (L.y rfl (Y.lenM (g:=TOp.row) (l:=l29) Tryz.underlying22 rfl (fun w hw=>((As.at_ (hw.get (i:=0) rfl)).dropM el29))) (L.r 1 rfl (ln (W.block (W.loopJ (fun m gs D=>∃ gc1 gx2 gv3 gl4 gq5,∃ gu7 gu9:Unit,∃ gl10 gq11 gl12 gv13 gl14,gs=[(0,pt pb0 0),(36,dropv (gv (kG a1.toNat) 0) (1:Int).toNat 3),(37,.int .i64 (l29.length:Int)),(38,.int .i64 gx2)]∧D=Cls w F [.obj pb0 (List.flatten [[gv3],(zr svRow gq11 gl10).flatten,(zr (fzr B) (fun _=>[]) gl12).flatten,[gv13]]) 38,.ss (zs (svSd 40 3 TOp.row) gq11 gl10),.ss (zs sd0 (fun _=>[]) gl12),.sl (gv (kG a1.toNat) 0) 40 3 (x28.map TOp.row),.sl gv13 40 3 (gl14.map TOp.row),.os gc1]∧Fz K gc1 gv3 3 (zr TI.rowv gq5 gl4)∧FzA K gc1 (zs TI.sds gq5 gl4)∧M23L1 l29 rec m gx2 gl4 gl10 gl12 gl14=some r) ⟨[],0,kH,kI,kN,(),(),l31,q32,kB,v25,l26,rfl,rfl,hA0_locks.up,hD0_locks.up,h⟩ ⟨rfl,rfl,rfl,rfl,trivial⟩ (sI [3,4,5,0,1,6]) ?_))))))
 rintro m _ _ ⟨gc1,gx2,gv3,gl4,gq5,gu7,gu9,gl10,gq11,gl12,gv13,gl14,rfl,rfl,hG6,hG8,h⟩
 rcases m with _ | m
 ·rw [M23L1] at h;cases h
 rw [M23L1] at h
 generalize hg1:M23L1 l29 rec m=go1 at h
 rw [M23L1B] at h
 refine sr (L.ite h rfl (Y.lss rfl rfl) (fun c33 h=>?_) (fun c33 h=>?_))
 ·refine ln (W.seq (W.condT rfl (W.skip (E.thenN (W.seq (W.block (sr (L.m (V:=fun _=>el (dropv (gv (kG a1.toNat) 0) (1:Int).toNat 3) (gx2.toNat*3)) h rfl (Y.indexM (g:=TOp.row) (l:=l29) Tryz.underlying22 sz40 rfl rfl (fun w hw=>((As.at_ (hw.get (i:=3) rfl)).dropM el29))) (fun x34 ex34 h=>(L.y rfl (Y.loadEN (r:=[.int .i64 x34.Tx,.int .i64 x34.Kind,.int .i64 x34.Item]) ag40 sz40 rfl (fun w hw=>((As.at_ (hw.get (i:=3) rfl)).dropM el29)) (idx_map ex34) rfl) (L.alloc rfl ze40 ?_)))))))))))
  intro b35
  refine L.store (i:=0) (vs:=[.int .i64 x34.Tx,.int .i64 x34.Kind,.int .i64 x34.Item]) sz40 rfl rfl rfl rfl (by simp [Value.oneCell',Value.cells,st,pt,el]) rfl nb (nr (L.r 1 rfl (L.y rfl (Y.loadPW (i:=0) ag40 sz40 rfl rfl rfl) (L.to (D:=Cls w F [.obj pb0 (List.flatten [[gv3],(zr svRow gq11 gl10).flatten,(zr (fzr B) (fun _=>[]) gl12).flatten,[gv13]]) 38,.ss (zs (svSd 40 3 TOp.row) gq11 gl10),.ss (zs sd0 (fun _=>[]) gl12),.sl gv13 40 3 (gl14.map TOp.row),.obj b35 [.int .i64 x34.Tx,.int .i64 x34.Kind,.int .i64 x34.Item] 40,.sl (gv (kG a1.toNat) 0) 40 3 (x28.map TOp.row),.os gc1]) (sI [1,2,3,5,0,4,6]) ?_))))
  obtain ⟨l36,l37,l38,l39,e40,h⟩:=bind4S h
  refine L.doesP (A:=[.obj pb0 (List.flatten [[gv3],(zr svRow gq11 gl10).flatten,(zr (fzr B) (fun _=>[]) gl12).flatten,[gv13]]) 38,.ss (zs (svSd 40 3 TOp.row) gq11 gl10),.ss (zs sd0 (fun _=>[]) gl12),.sl gv13 40 3 (gl14.map TOp.row)]) (M:=[.obj b35 [.int .i64 x34.Tx,.int .i64 x34.Kind,.int .i64 x34.Item] 40,.sl (gv (kG a1.toNat) 0) 40 3 (x28.map TOp.row),.os gc1]) rfl en9 rfl (fun w' hw=>ih gl4 gl10 gl12 gl14 x34 pb0 gv3 gq5 gq11 gv13 (Kn K _) w' _ e40 _ (hK.knF hw rfl) hG6.tok hG8.tok hw.lend) ?_
  rintro _ _ ⟨c47,v41,q42,q45,v46,rfl,f43,f44,rfl⟩
  refine L.to (D:=Cls w F [.obj pb0 (List.flatten [[v41],(zr svRow q45 l37).flatten,(zr (fzr B) (fun _=>[]) l38).flatten,[v46]]) 38,.ss (zs (svSd 40 3 TOp.row) q45 l37),.ss (zs sd0 (fun _=>[]) l38),.sl v46 40 3 (l39.map TOp.row),.os c47,.obj b35 [.int .i64 x34.Tx,.int .i64 x34.Kind,.int .i64 x34.Item] 40,.sl (gv (kG a1.toNat) 0) 40 3 (x28.map TOp.row),.os gc1]) hI (L.osJoin (K:=K) (i:=4) rfl rfl rfl ?_)
  intro c48 mo49 mn50 ma51
  exact L.to (D:=Cls w F [.obj pb0 (List.flatten [[v41],(zr svRow q45 l37).flatten,(zr (fzr B) (fun _=>[]) l38).flatten,[v46]]) 38,.ss (zs (svSd 40 3 TOp.row) q45 l37),.ss (zs sd0 (fun _=>[]) l38),.sl v46 40 3 (l39.map TOp.row),.obj b35 [.int .i64 x34.Tx,.int .i64 x34.Kind,.int .i64 x34.Item] 40,.sl (gv (kG a1.toNat) 0) 40 3 (x28.map TOp.row),.os c48]) hI (L.nil (E.blockN (E.thenN (W.region (L.m (V:=fun x52=>.int .i64 x52) h rfl (Y.addM rfl rfl) (fun x52 ex52 h=>(L.r 1 rfl (L.nil (E.aJ ⟨c48,x52,v41,l36,q42,(),(),l37,q45,l38,v46,l39,rfl,rfl,(mn50 f43),(ma51 f44),by rw [hg1];exact h⟩ (sI [0,1,2,5,3,6]))))))))))
 refine ln (W.seq (W.condF rfl (W.exit (E.thenX (E.KLX (E.blockX (E.end0 rfl (fun w1 hw=>?_))))))))
 cases h
 exact ⟨_,_,rfl,⟨gc1,gv3,gq5,_,_,rfl,hG6,hG8,rfl⟩,hw.s [0,1,2,4,5]⟩
set_option maxRecDepth 100000 in
set_option maxHeartbeats 8000000 in
theorem W13 (rec:(List TI)→(List (List TOp))→(List Bool)→(List TOp)→TOp→Option ((List TI)×(List (List TOp))×(List Bool)×(List TOp))) (ih:∀ (kI:(List TI)) (kA:(List (List TOp))) (kB:(List Bool)) (kD:(List TOp)) (a1:TOp) (pb0:Nat) (kH:Value) (kN:Nat→List Value) (kG:Nat→List Value) (kC:Value) (K:World→Prop) (w:World) (r:((List TI)×(List (List TOp))×(List Bool)×(List TOp))) (h:rec kI kA kB kD a1=some r) (F:List Nat) (hK:StbF K w F) (hA0_locks:Fz K [] kH 3 (zr TI.rowv kN kI)) (hD0_locks:FzA K [] (zs TI.sds kN kI)) (hc0:Cls w F [.obj pb0 (List.flatten [[kH],(zr svRow kG kA).flatten,(zr (fzr B) (fun _=>[]) kB).flatten,[kC]]) 38,.ss (zs (svSd 40 3 TOp.row) kG kA),.ss (zs sd0 (fun _=>[]) kB),.sl kC 40 3 (kD.map TOp.row)] w),DoesF Tryz.prog 9 [pt pb0 0,.agg #[.int .i64 a1.Tx,.int .i64 a1.Kind,.int .i64 a1.Item]] F w fun u m=>∃ c,∃ y1 z1 z2 y4,u=.tuple #[]∧Fz K c y1 3 (zr TI.rowv z1 r.1)∧FzA K c (zs TI.sds z1 r.1)∧m=[.obj pb0 (List.flatten [[y1],(zr svRow z2 r.2.1).flatten,(zr (fzr B) (fun _=>[]) r.2.2.1).flatten,[y4]]) 38,.ss (zs (svSd 40 3 TOp.row) z2 r.2.1),.ss (zs sd0 (fun _=>[]) r.2.2.1),.sl y4 40 3 (r.2.2.2.map TOp.row),.os c]) (kI:(List TI)) (kA:(List (List TOp))) (kB:(List Bool)) (kD:(List TOp)) (a1:Int) (pb0:Nat) (kH:Value) (kN:Nat→List Value) (kG:Nat→List Value) (kC:Value) (K:World→Prop) (w:World) (r:((List TI)×(List (List TOp))×(List Bool)×(List TOp))) (h:M13 rec kI kA kB kD a1=some r) (F:List Nat) (hK:StbF K w F) (hA0_locks:Fz K [] kH 3 (zr TI.rowv kN kI)) (hD0_locks:FzA K [] (zs TI.sds kN kI)) (hc0:Cls w F [.obj pb0 (List.flatten [[kH],(zr svRow kG kA).flatten,(zr (fzr B) (fun _=>[]) kB).flatten,[kC]]) 38,.ss (zs (svSd 40 3 TOp.row) kG kA),.ss (zs sd0 (fun _=>[]) kB),.sl kC 40 3 (kD.map TOp.row)] w):DoesF Tryz.prog 13 [pt pb0 0,.int .i64 a1] F w fun u m=>∃ c,∃ y1 z1 z2 y4,u=.tuple #[]∧Fz K c y1 3 (zr TI.rowv z1 r.1)∧FzA K c (zs TI.sds z1 r.1)∧m=[.obj pb0 (List.flatten [[y1],(zr svRow z2 r.2.1).flatten,(zr (fzr B) (fun _=>[]) r.2.2.1).flatten,[y4]]) 38,.ss (zs (svSd 40 3 TOp.row) z2 r.2.1),.ss (zs sd0 (fun _=>[]) r.2.2.1),.sl y4 40 3 (r.2.2.2.map TOp.row),.os c]:=by
 rw [M13] at h
 refine body (n:=33) (C:=Cls w F [.obj pb0 (List.flatten [[kH],(zr svRow kG kA).flatten,(zr (fzr B) (fun _=>[]) kB).flatten,[kC]]) 38,.ss (zs (svSd 40 3 TOp.row) kG kA),.ss (zs sd0 (fun _=>[]) kB),.sl kC 40 3 (kD.map TOp.row),.os []]) Tryz.func13 rfl rfl rfl hc0.osNil (sr (L.r 2 rfl (L.y rfl (Y.fieldP fd38_0 rfl) (L.y rfl (Y.loadG (q:=0) (si:=0) (ps:=0) (j:=0) (X:=[kH]) ag34 rfl rfl rfl rfl sl0 rfl) (L.r 1 rfl ?_)))))
 obtain ⟨l1,l6,x9,e10,h⟩:=bind3S h
 refine L.doesFP rfl en22 rfl rfl hK (fun w' hw hs=>W22 kI a1 kH kN _ w' hs.f _ e10 hA0_locks.up.tok hD0_locks.up.tok) ?_
 rintro _ c11 c12 mo13 mn14 ma15 ⟨v2,q4,v7,rfl,f3,f5,f8⟩
 refine L.r 7 rfl (nsr (L.r 3 rfl (L.y rfl (Y.fieldP fd38_0 rfl) (L.storeGV (q:=0) (si:=0) (ps:=0) (j:=0) (X:=[kH]) sz34 rfl rfl rfl (fun _ hw=>((mn14 f3).clsP hK hw rfl).one) rfl rfl sl0 rfl (nsr (L.r 1 rfl (L.y rfl (Y.lenM (g:=I) (l:=l6) Tryz.underlying23 rfl (fun w' hw=>((mn14 f8).clsP hK hw rfl))) ?_)))))))
 refine L.r 1 rfl (ln (W.block (W.loopJ (fun m gs D=>∃ gc1,∃ gu3:Unit,∃ gx4 gv5 gl6 gq7,∃ gu9 gu11:Unit,∃ gl12 gq13 gl14 gv15 gl16,gs=[(0,pt pb0 0),(23,v7),(24,.int .i64 (l6.length:Int)),(25,.int .i64 gx4)]∧D=Cls w F [.obj pb0 (List.flatten [[gv5],(zr svRow gq13 gl12).flatten,(zr (fzr B) (fun _=>[]) gl14).flatten,[gv15]]) 38,.ss (zs (svSd 40 3 TOp.row) gq13 gl12),.ss (zs sd0 (fun _=>[]) gl14),.sl gv15 40 3 (gl16.map TOp.row),.os gc1]∧Fz K gc1 v7 1 (l6.map I)∧Fz K gc1 gv5 3 (zr TI.rowv gq7 gl6)∧FzA K gc1 (zs TI.sds gq7 gl6)∧M13L1 l6 rec m gx4 gl6 gl12 gl14 gl16=some r) ⟨c12,(),0,v2,l1,q4,(),(),kA,kG,kB,kC,kD,rfl,rfl,(mn14 f8),(mn14 f3),(ma15 f5),h⟩ ⟨rfl,rfl,rfl,rfl,trivial⟩ hI ?_)))
 rintro m _ _ ⟨gc1,gu3,gx4,gv5,gl6,gq7,gu9,gu11,gl12,gq13,gl14,gv15,gl16,rfl,rfl,hG2,hG8,hG10,h⟩
 rcases m with _ | m
 ·rw [M13L1] at h;cases h
 rw [M13L1] at h
 generalize hg1:M13L1 l6 rec m=go1 at h
 rw [M13L1B] at h
 refine sr (L.ite h rfl (Y.lss rfl rfl) (fun c16 h=>?_) (fun c16 h=>?_))
 ·refine ln (W.seq (W.condT rfl (W.skip (E.thenN (W.seq (W.block (sr (L.m (V:=fun _=>el v7 (gx4.toNat*1)) h rfl (Y.indexM (g:=I) (l:=l6) Tryz.underlying23 sz3 rfl rfl (fun w' hw=>(hG2.clsP hK hw rfl))) (fun x17 ex17 h=>(L.y rfl (Y.loadE1 (u:=.int .i64 x17) ag3 rfl (fun w' hw=>(hG2.clsP hK hw rfl)) (idx_map ex17)) (L.r 1 rfl (L.nil ?_))))))))))))
  refine E.thenN (W.region (L.r 2 rfl ?_))
  obtain ⟨l18,l19,l20,l21,e22,h⟩:=bind4S h
  refine L.doesP (A:=[.obj pb0 (List.flatten [[gv5],(zr svRow gq13 gl12).flatten,(zr (fzr B) (fun _=>[]) gl14).flatten,[gv15]]) 38,.ss (zs (svSd 40 3 TOp.row) gq13 gl12),.ss (zs sd0 (fun _=>[]) gl14),.sl gv15 40 3 (gl16.map TOp.row)]) (M:=[.os gc1]) rfl en23 rfl (fun w' hw=>W23 rec ih gl6 gl12 gl14 gl16 x17 pb0 gv5 gq7 gq13 gv15 (Kn K _) w' _ e22 _ (hK.knF hw rfl) hG8.tok hG10.tok hw.lend) ?_
  rintro _ _ ⟨c29,v23,q24,q27,v28,rfl,f25,f26,rfl⟩
  refine L.to (D:=Cls w F [.obj pb0 (List.flatten [[v23],(zr svRow q27 l19).flatten,(zr (fzr B) (fun _=>[]) l20).flatten,[v28]]) 38,.ss (zs (svSd 40 3 TOp.row) q27 l19),.ss (zs sd0 (fun _=>[]) l20),.sl v28 40 3 (l21.map TOp.row),.os c29,.os gc1]) hI (L.osJoin (K:=K) (i:=4) rfl rfl rfl ?_)
  intro c30 mo31 mn32 ma33
  exact L.to (D:=Cls w F [.obj pb0 (List.flatten [[v23],(zr svRow q27 l19).flatten,(zr (fzr B) (fun _=>[]) l20).flatten,[v28]]) 38,.ss (zs (svSd 40 3 TOp.row) q27 l19),.ss (zs sd0 (fun _=>[]) l20),.sl v28 40 3 (l21.map TOp.row),.os c30]) hI (L.nil (E.blockN (E.thenN (W.region (L.m (V:=fun x34=>.int .i64 x34) h rfl (Y.addM rfl rfl) (fun x34 ex34 h=>(L.r 1 rfl (L.nil (E.aJ ⟨c30,(),x34,v23,l18,q24,(),(),l19,q27,l20,v28,l21,rfl,rfl,(hG2.mo mo31),(mn32 f25),(ma33 f26),by rw [hg1];exact h⟩ hI)))))))))
 refine ln (W.seq (W.condF rfl (W.exit (E.thenX (E.KLX (E.blockX (E.end0 rfl (fun w1 hw=>?_))))))))
 cases h
 exact ⟨_,_,rfl,⟨gc1,gv5,gq7,_,_,rfl,hG8,hG10,rfl⟩,hw⟩
set_option maxRecDepth 100000 in
set_option maxHeartbeats 8000000 in
theorem W15 (a0:TOp) (w:World) (r:Int) (h:M15 a0=some r):Does Tryz.prog 15 [.agg #[.int .i64 a0.Tx,.int .i64 a0.Kind,.int .i64 a0.Item]] w fun u m=>u=.int .i64 r∧m=[]:=by
 rw [M15] at h
 refine body (n:=6) Tryz.func15 rfl rfl rfl (Cls.refl w) (sr (L.box rfl rfl ?_))
 intro b1
 refine L.r 1 rfl (ln (W.seq (sr (L.y rfl (Y.fieldP fd40_1 rfl) (L.y rfl (Y.loadP (i:=0) ag3 rfl rfl rfl) (L.ite h rfl (Y.eql rfl rfl) (fun c2 h=>?_) (fun c2 h=>?_)))))))
 ·refine ln (W.condT rfl (sr (L.r 1 rfl (ln (W.ret (E.thenR (E.ret1 rfl rfl (fun w1 hw=>?_))))))))
  cases h
  exact ⟨_,_,rfl,⟨rfl,rfl⟩,hw.s []⟩
 refine ln (W.condF rfl (W.skip (E.thenN (sr (L.r 1 rfl (ln (W.ret (E.ret1 rfl rfl (fun w1 hw=>?_)))))))))
 cases h
 exact ⟨_,_,rfl,⟨rfl,rfl⟩,hw.s []⟩
set_option maxRecDepth 100000 in
set_option maxHeartbeats 8000000 in
theorem W30 (a0:TI) (a1:Int) (u0_0:Value) (u0_1:Value) (w:World) (r:Int) (h:M30 a0 a1=some r) (hA0_0:At w u0_0 2 (a0.Held.map TL.row)) (hA0_1:At w u0_1 2 (a0.Queue.map TL.row)):Does Tryz.prog 30 [.agg #[.int .i64 a0.Item,u0_0,u0_1],.int .i64 a1] w fun u m=>u=.int .i64 r∧m=[]:=by
 rw [M30] at h
 refine body (n:=9) Tryz.func30 rfl rfl rfl (Cls.refl w) (sr (L.box rfl rfl ?_))
 intro b1
 refine L.r 1 rfl (nsr (L.y rfl (Y.fieldP fd65_0 rfl) (L.y rfl (Y.loadP (i:=0) ag3 rfl rfl rfl) (L.r 1 rfl (L.m (V:=fun x2=>.int .i64 x2) h rfl (Y.subM rfl rfl) (fun x2 ex2 h=>(L.r 1 rfl (ln (W.ret (E.ret1 rfl rfl (fun w1 hw=>?_)))))))))))
 cases h
 exact ⟨_,_,rfl,⟨rfl,rfl⟩,hw.s []⟩
end Go.Proofs.YtlecphianicdhaaGreat
