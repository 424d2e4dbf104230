import Derived.Test.YtlecphianicdhaaGreatTwW4
import Derived.Test.YtlecphianicdhaaGreatChecked
import Derived.KernelRfl
import Derived.Test.YtlecphianicdhaaGreatZe
namespace Go.Proofs.YtlecphianicdhaaGreat
open Go.S
set_option linter.unusedVariables false
set_option linter.unusedSimpArgs false
set_option maxRecDepth 100000 in
set_option maxHeartbeats 8000000 in
theorem W39 (a0:(List TI)) (a1:Int) (u0:Value) (q0:Nat→List Value) (K:World→Prop) (w:World) (hK:StbF K w []) (r:((List TI)×(List Int))) (h:M39 a0 a1=some r) (hA0:Fz K [] u0 3 (zr TI.rowv q0 a0)) (hD0:FzA K [] (zs TI.sds q0 a0)):Does Tryz.prog 39 [u0,.int .i64 a1] w fun u m=>∃ c,m=[.os c]∧∃ v0 q0 v1,u=.tuple #[v0,v1]∧Fz K c v0 3 (zr TI.rowv q0 r.1)∧FzA K c (zs TI.sds q0 r.1)∧Fz K c v1 1 (r.2.map I):=by
 rw [M39] at h
 refine body (n:=70) Tryz.func39 rfl rfl rfl (Cls.reflF w) (sr (L.box rfl rfl ?_))
 intro b1
 refine L.r 2 rfl (nsr (L.r 1 rfl (nsr (L.r 1 rfl (ln (W.seq ?_))))))
 refine W.region (L.y rfl (Y.func rfl) (L.r 1 rfl (ln (W.seqJ (fun gs D=>∃ gc1 gv2 gl3 gq4,∃ gu6:Unit,∃ gv7 gl8,gs=[(6,gv2),(7,gv7)]∧D=Cls w [] [.sl gv2 65 3 (zr TI.rowv gq4 gl3),.sl gv7 3 1 (gl8.map I),.os gc1]∧FzA K gc1 (zs TI.sds gq4 gl3)∧M39K1 gl3 gl8=some r) ?_ ?_))))
 ·refine sr (L.r 1 rfl (L.y rfl (Y.lenMZ (row:=TI.rowv) (vs:=q0) (l:=a0) Tryz.underlying34 rfl (fun w' hw=>(hA0.up.clsP hK hw rfl))) (L.r 1 rfl (ln (W.block (W.nilSl 65 3 (W.nilSl 3 1 (W.loopJ (fun m gs D=>∃ gc9 gv10 gl11 gq12,∃ gu14:Unit,∃ gv15 gl16 gx17,gs=[(6,gv10),(7,gv15),(8,.func (.func 67) #[] #[pt b1 0]),(12,u0),(13,.int .i64 (a0.length:Int)),(14,.int .i64 gx17)]∧D=Cls w [] [.obj b1 [.int .i64 a1] 3,.sl gv10 65 3 (zr TI.rowv gq12 gl11),.sl gv15 3 1 (gl16.map I),.os gc9]∧FzA K gc9 (zs TI.sds gq12 gl11)∧M39L1 a0 a1 m gl11 gl16 gx17=some r) ⟨[],.slice none 0 0,[],(fun _=>[]),(),.slice none 0 0,[],0,rfl,rfl,FzA.nil,h⟩ ⟨rfl,rfl,rfl,rfl,rfl,rfl,trivial⟩ (sI [2,1,0,3]) ?_))))))))
  rintro m _ _ ⟨gc9,gv10,gl11,gq12,gu14,gv15,gl16,gx17,rfl,rfl,hG13,h⟩
  rcases m with _ | m
  ·rw [M39L1] at h;cases h
  rw [M39L1] at h
  generalize hg1:M39L1 a0 a1 m=go1 at h
  rw [M39L1B] at h
  refine sr (L.ite h rfl (Y.lss rfl rfl) (fun c8 h=>?_) (fun c8 h=>?_))
  ·refine ln (W.seq (W.condT rfl (W.skip (E.thenN (W.seqJ (fun gs D=>∃ gc18 gv19 gl20 gq21,∃ gu23:Unit,∃ gv24 gl25,gs=[(6,gv19),(7,gv24),(8,.func (.func 67) #[] #[pt b1 0]),(12,u0),(13,.int .i64 (a0.length:Int)),(14,.int .i64 gx17)]∧D=Cls w [] [.obj b1 [.int .i64 a1] 3,.sl gv19 65 3 (zr TI.rowv gq21 gl20),.sl gv24 3 1 (gl25.map I),.os gc18]∧FzA K gc18 (zs TI.sds gq21 gl20)∧M39K2 gx17 go1 gl20 gl25=some r) ?_ ?_)))))
   ·refine W.block (sr (L.m (V:=fun _=>el u0 (gx17.toNat*3)) h rfl (Y.indexMZ (row:=TI.rowv) (vs:=q0) (l:=a0) Tryz.underlying34 sz65 rfl rfl (fun w' hw=>(hA0.up.clsP hK hw rfl))) (fun x10 ex10 h=>(L.y rfl (Y.loadEN (r:=[.int .i64 x10.Item,gv (q0 gx17.toNat) 0,gv (q0 gx17.toNat) 1]) ag65 sz65 rfl (fun w' hw=>(hA0.up.clsP hK hw rfl)) (zr_idx (vs:=q0) ex10) rfl) (L.alloc rfl ze65 ?_)))))
    intro b11
    refine L.storeC (i:=0) sz65 rfl rfl rfl rfl (fun w hw=>(all1 rfl (all1 (((FzA.at (sds:=TI.sds) (vs:=q0) (j:=0) (nl:=2) hD0 (fun _ _=>rfl) ex10 rfl).up).clsP hK hw rfl).one (all1 (((FzA.at (sds:=TI.sds) (vs:=q0) (j:=1) (nl:=2) hD0 (fun _ _=>rfl) ex10 rfl).up).clsP hK hw rfl).one all0)))) rfl nb (ln (W.seq (W.drawn2 (k:=12) (stC [[5,11],[11]] [Cls w [] [.obj b11 [.int .i64 x10.Item,gv (q0 gx17.toNat) 0,gv (q0 gx17.toNat) 1] 65,.obj b1 [.int .i64 a1] 3,.sl gv10 65 3 (zr TI.rowv gq12 gl11),.sl gv15 3 1 (gl16.map I),.os gc9],Cls w [] [.obj b11 [.int .i64 x10.Item,gv (q0 gx17.toNat) 0,gv (q0 gx17.toNat) 1] 65,.obj b1 [.int .i64 a1] 3,.sl gv15 3 1 (gl16.map I),.os gc9]] (Cls w [] [.obj b1 [.int .i64 a1] 3,.sl gv15 3 1 (gl16.map I),.os gc9])) rfl mixed (fun _ hw=>hw.drew) (Sc.now (by kernel_rfl) hI) (V2.zz [] (Zc.on' (Zc.on' (Zc.fin hI) (sI [1,2,3])) (sI [1,3,4])) (fun hz15=>(V2.q 0 [] hz15 rfl rfl (Y.fieldP fd65_0 rfl) (V2.zz [11] (Zc.on' (Zc.at1 hI) (sI [0,1,3,4])) (fun hz16=>(V2.q 1 [11] hz16 rfl rfl (Y.loadP (i:=0) ag3 rfl rfl rfl) (V2.r [2] (by kernel_rfl) rfl (V2.q 3 [] hz15 rfl rfl (Y.fieldP fd65_1 rfl) (V2.q 4 [11] hz16 rfl rfl (Y.loadP (i:=0) ag63 rfl rfl rfl) (V2.r [6] (by kernel_rfl) rfl (V2.q 7 [] hz15 rfl rfl (Y.fieldP fd65_2 rfl) ?_))))))))))))))
    refine V2.q 8 [11] hz16 rfl rfl (Y.loadP (i:=0) ag63 rfl rfl rfl) (V2.eff (i:=5) (by kernel_rfl) rfl (L.callVJ (fun v D=>∃ gu39:Unit,∃ gv40 gl41,v=gv40∧D=Cls w [] [.obj b11 [.int .i64 x10.Item,gv (q0 gx17.toNat) 0,gv (q0 gx17.toNat) 1] 65,.obj b1 [.int .i64 a1] 3,.sl gv10 65 3 (zr TI.rowv gq12 gl11),.sl gv15 3 1 (gl16.map I),.sl gv40 68 2 (gl41.map TL.row),.os gc9]∧FzA K gc9 (zs TI.sds gq12 gl11)∧M39K3 x10 a1 gl11 gx17 go1 gl16 gl41=some r) rfl en67 rfl rfl Tryz.func67 rfl rfl rfl ?_ ?_))
    ·refine sr (L.r 1 rfl (nsr (L.r 1 rfl (ln (W.seqJ (fun gs D=>∃ gv89 gl90,∃ gu92:Unit,gs=[(4,gv89)]∧D=Cls w [] [.obj b11 [.int .i64 x10.Item,gv (q0 gx17.toNat) 0,gv (q0 gx17.toNat) 1] 65,.obj b1 [.int .i64 a1] 3,.sl gv89 68 2 (gl90.map TL.row),.sl gv10 65 3 (zr TI.rowv gq12 gl11),.sl gv15 3 1 (gl16.map I),.os gc9]∧FzA K gc9 (zs TI.sds gq12 gl11)∧M39K8 x10 a1 gl11 gx17 go1 gl16 gl90=some r) ?_ ?_)))))
     ·refine sr (L.r 1 rfl (L.y rfl (Y.lenM (g:=TL.row) (l:=x10.Held) Tryz.underlying63 rfl (fun w' hw=>(((FzA.at (sds:=TI.sds) (vs:=q0) (j:=0) (nl:=2) hD0 (fun _ _=>rfl) ex10 rfl).up).clsP hK hw rfl))) (L.r 1 rfl (ln (W.block (W.nilSl 68 2 (W.loopJ (fun m gs D=>∃ gv95 gl96 gx97,∃ gu99:Unit,gs=[(1,pt b1 0),(4,gv95),(7,gv (q0 gx17.toNat) 0),(8,.int .i64 (x10.Held.length:Int)),(9,.int .i64 gx97)]∧D=Cls w [] [.obj b11 [.int .i64 x10.Item,gv (q0 gx17.toNat) 0,gv (q0 gx17.toNat) 1] 65,.obj b1 [.int .i64 a1] 3,.sl gv95 68 2 (gl96.map TL.row),.sl gv10 65 3 (zr TI.rowv gq12 gl11),.sl gv15 3 1 (gl16.map I),.os gc9]∧FzA K gc9 (zs TI.sds gq12 gl11)∧M39L4 x10 a1 gl11 gx17 go1 gl16 m gl96 gx97=some r) ⟨.slice none 0 0,[],0,(),rfl,rfl,hG13,h⟩ ⟨rfl,rfl,rfl,rfl,rfl,trivial⟩ (sI [1,2,0,3,4,5]) ?_)))))))
      rintro m _ _ ⟨gv95,gl96,gx97,gu99,rfl,rfl,hG98,h⟩
      rcases m with _ | m
      ·rw [M39L4] at h;cases h
      rw [M39L4] at h
      generalize hg4:M39L4 x10 a1 gl11 gx17 go1 gl16 m=go4 at h
      rw [M39L4B] at h
      refine sr (L.ite h rfl (Y.lss rfl rfl) (fun c113 h=>?_) (fun c113 h=>?_))
      ·refine ln (W.seq (W.condT rfl (W.skip (E.thenN (W.seq (W.block (sr (L.m (V:=fun _=>el (gv (q0 gx17.toNat) 0) (gx97.toNat*2)) h rfl (Y.indexM (g:=TL.row) (l:=x10.Held) Tryz.underlying63 sz68 rfl rfl (fun w' hw=>(((FzA.at (sds:=TI.sds) (vs:=q0) (j:=0) (nl:=2) hD0 (fun _ _=>rfl) ex10 rfl).up).clsP hK hw rfl))) (fun x114 ex114 h=>(L.y rfl (Y.loadEN (r:=[.int .i64 x114.Tx,.int .i64 x114.Mode]) ag68 sz68 rfl (fun w' hw=>(((FzA.at (sds:=TI.sds) (vs:=q0) (j:=0) (nl:=2) hD0 (fun _ _=>rfl) ex10 rfl).up).clsP hK hw rfl)) (idx_map ex114) rfl) (L.alloc rfl ze68 ?_)))))))))))
       intro b115
       refine L.store (i:=0) (vs:=[.int .i64 x114.Tx,.int .i64 x114.Mode]) sz68 rfl rfl rfl rfl (by simp [Value.oneCell',Value.cells,st,pt,el]) rfl nb (nsr (L.y rfl (Y.fieldP fd68_0 rfl) (L.y rfl (Y.loadP (i:=0) ag3 rfl rfl rfl) (L.y rfl (Y.loadP (i:=2) ag3 rfl rfl rfl) (L.ite h rfl (Y.neq rfl rfl) (fun c116 h=>?_) (fun c116 h=>?_))))))
       ·refine ln (W.condT rfl (W.region (L.r 1 rfl (L.y rfl (Y.loadPW (i:=0) ag68 sz68 rfl rfl rfl) (L.litAgg rfl Tryz.underlying63 eL68 rfl rfl rfl ?_)))))
        intro b117
        refine L.appM (i:=4) (g:=TL.row) (l:=gl96) (more:=[x114]) h rfl Tryz.underlying63 eL68 rfl rfl rfl (fun w hw=>As.at_ (hw.get (i:=0) rfl)) (plain_TLock _) rfl ?_
        intro v118 l119 el119 h
        exact L.r 1 rfl (L.nil (E.blockN (E.thenN (W.region (L.m (V:=fun x120=>.int .i64 x120) h rfl (Y.addM rfl rfl) (fun x120 ex120 h=>(L.r 1 rfl (L.nil (E.aJ ⟨v118,l119,x120,(),rfl,rfl,hG98,by rw [hg4];exact h⟩ (sI [3,4,0,5,6,7]))))))))))
       exact ln (W.condF rfl (W.skip (E.blockN (E.thenN (W.region (L.m (V:=fun x121=>.int .i64 x121) h rfl (Y.addM rfl rfl) (fun x121 ex121 h=>(L.r 1 rfl (L.nil (E.aJ ⟨gv95,gl96,x121,(),rfl,rfl,hG98,by rw [hg4];exact h⟩ (sI [1,2,3,4,5,6])))))))))))
      exact ln (W.seq (W.condF rfl (W.exit (E.thenX (E.KLX (E.blockX (E.jJ ⟨gv95,gl96,(),rfl,rfl,hG98,h⟩ hI)))))))
     rintro _ _ ⟨gv89,gl90,gu92,rfl,rfl,hG91,h⟩
     rw [M39K8] at h
     exact sr (L.r 2 rfl (ln (W.ret (E.ret1 rfl rfl (fun w1 hw=>(⟨_,_,rfl,⟨(),gv89,gl90,rfl,rfl,hG91,h⟩,hw.s [0,1,3,4,2,5]⟩))))))
    rintro gv40 _ ⟨gu39,_,gl41,rfl,rfl,hG38,h⟩
    rw [M39K3] at h
    refine L.nil (E.toV2 (stC [[11]] [Cls w [] [.obj b11 [.int .i64 x10.Item,gv (q0 gx17.toNat) 0,gv (q0 gx17.toNat) 1] 65,.obj b1 [.int .i64 a1] 3,.sl gv15 3 1 (gl16.map I),.sl gv40 68 2 (gl41.map TL.row),.os gc9]] (Cls w [] [.obj b1 [.int .i64 a1] 3,.sl gv15 3 1 (gl16.map I),.sl gv40 68 2 (gl41.map TL.row),.os gc9])) 5 (by kernel_rfl) (Sc.past rfl (Sc.stay (sI [0,1,2,4]) (Sc.stayD (sI [0,1,3])))) (Sc.now (by kernel_rfl) (sI [0,1,3,4,5])) (V2.eff (i:=9) (by kernel_rfl) rfl (L.callVJ (fun v D=>∃ gu43:Unit,∃ gv44 gl45,v=gv44∧D=Cls w [] [.obj b11 [.int .i64 x10.Item,gv (q0 gx17.toNat) 0,gv (q0 gx17.toNat) 1] 65,.obj b1 [.int .i64 a1] 3,.sl gv10 65 3 (zr TI.rowv gq12 gl11),.sl gv15 3 1 (gl16.map I),.sl gv40 68 2 (gl41.map TL.row),.sl gv44 68 2 (gl45.map TL.row),.os gc9]∧FzA K gc9 (zs TI.sds gq12 gl11)∧M39K4 gl11 gx17 go1 gl16 x10 gl41 gl45=some r) rfl en67 rfl rfl Tryz.func67 rfl rfl rfl ?_ ?_)))
    ·refine sr (L.r 1 rfl (nsr (L.r 1 rfl (ln (W.seqJ (fun gs D=>∃ gv78 gl79,∃ gu81:Unit,gs=[(4,gv78)]∧D=Cls w [] [.obj b11 [.int .i64 x10.Item,gv (q0 gx17.toNat) 0,gv (q0 gx17.toNat) 1] 65,.obj b1 [.int .i64 a1] 3,.sl gv78 68 2 (gl79.map TL.row),.sl gv10 65 3 (zr TI.rowv gq12 gl11),.sl gv15 3 1 (gl16.map I),.sl gv40 68 2 (gl41.map TL.row),.os gc9]∧FzA K gc9 (zs TI.sds gq12 gl11)∧M39K7 gl11 gx17 go1 gl16 x10 gl41 gl79=some r) ?_ ?_)))))
     ·refine sr (L.r 1 rfl (L.y rfl (Y.lenM (g:=TL.row) (l:=x10.Queue) Tryz.underlying63 rfl (fun w' hw=>(((FzA.at (sds:=TI.sds) (vs:=q0) (j:=1) (nl:=2) hD0 (fun _ _=>rfl) ex10 rfl).up).clsP hK hw rfl))) (L.r 1 rfl (ln (W.block (W.nilSl 68 2 (W.loopJ (fun m gs D=>∃ gv84 gl85 gx86,∃ gu88:Unit,gs=[(1,pt b1 0),(4,gv84),(7,gv (q0 gx17.toNat) 1),(8,.int .i64 (x10.Queue.length:Int)),(9,.int .i64 gx86)]∧D=Cls w [] [.obj b11 [.int .i64 x10.Item,gv (q0 gx17.toNat) 0,gv (q0 gx17.toNat) 1] 65,.obj b1 [.int .i64 a1] 3,.sl gv84 68 2 (gl85.map TL.row),.sl gv10 65 3 (zr TI.rowv gq12 gl11),.sl gv15 3 1 (gl16.map I),.sl gv40 68 2 (gl41.map TL.row),.os gc9]∧FzA K gc9 (zs TI.sds gq12 gl11)∧M39L3 x10 a1 gl11 gx17 go1 gl16 gl41 m gl85 gx86=some r) ⟨.slice none 0 0,[],0,(),rfl,rfl,hG38,h⟩ ⟨rfl,rfl,rfl,rfl,rfl,trivial⟩ (sI [1,2,0,3,4,5,6]) ?_)))))))
      rintro m _ _ ⟨gv84,gl85,gx86,gu88,rfl,rfl,hG87,h⟩
      rcases m with _ | m
      ·rw [M39L3] at h;cases h
      rw [M39L3] at h
      generalize hg3:M39L3 x10 a1 gl11 gx17 go1 gl16 gl41 m=go3 at h
      rw [M39L3B] at h
      refine sr (L.ite h rfl (Y.lss rfl rfl) (fun c104 h=>?_) (fun c104 h=>?_))
      ·refine ln (W.seq (W.condT rfl (W.skip (E.thenN (W.seq (W.block (sr (L.m (V:=fun _=>el (gv (q0 gx17.toNat) 1) (gx86.toNat*2)) h rfl (Y.indexM (g:=TL.row) (l:=x10.Queue) Tryz.underlying63 sz68 rfl rfl (fun w' hw=>(((FzA.at (sds:=TI.sds) (vs:=q0) (j:=1) (nl:=2) hD0 (fun _ _=>rfl) ex10 rfl).up).clsP hK hw rfl))) (fun x105 ex105 h=>(L.y rfl (Y.loadEN (r:=[.int .i64 x105.Tx,.int .i64 x105.Mode]) ag68 sz68 rfl (fun w' hw=>(((FzA.at (sds:=TI.sds) (vs:=q0) (j:=1) (nl:=2) hD0 (fun _ _=>rfl) ex10 rfl).up).clsP hK hw rfl)) (idx_map ex105) rfl) (L.alloc rfl ze68 ?_)))))))))))
       intro b106
       refine L.store (i:=0) (vs:=[.int .i64 x105.Tx,.int .i64 x105.Mode]) sz68 rfl rfl rfl rfl (by simp [Value.oneCell',Value.cells,st,pt,el]) rfl nb (nsr (L.y rfl (Y.fieldP fd68_0 rfl) (L.y rfl (Y.loadP (i:=0) ag3 rfl rfl rfl) (L.y rfl (Y.loadP (i:=2) ag3 rfl rfl rfl) (L.ite h rfl (Y.neq rfl rfl) (fun c107 h=>?_) (fun c107 h=>?_))))))
       ·refine ln (W.condT rfl (W.region (L.r 1 rfl (L.y rfl (Y.loadPW (i:=0) ag68 sz68 rfl rfl rfl) (L.litAgg rfl Tryz.underlying63 eL68 rfl rfl rfl ?_)))))
        intro b108
        refine L.appM (i:=4) (g:=TL.row) (l:=gl85) (more:=[x105]) h rfl Tryz.underlying63 eL68 rfl rfl rfl (fun w hw=>As.at_ (hw.get (i:=0) rfl)) (plain_TLock _) rfl ?_
        intro v109 l110 el110 h
        exact L.r 1 rfl (L.nil (E.blockN (E.thenN (W.region (L.m (V:=fun x111=>.int .i64 x111) h rfl (Y.addM rfl rfl) (fun x111 ex111 h=>(L.r 1 rfl (L.nil (E.aJ ⟨v109,l110,x111,(),rfl,rfl,hG87,by rw [hg3];exact h⟩ (sI [3,4,0,5,6,7,8]))))))))))
       exact ln (W.condF rfl (W.skip (E.blockN (E.thenN (W.region (L.m (V:=fun x112=>.int .i64 x112) h rfl (Y.addM rfl rfl) (fun x112 ex112 h=>(L.r 1 rfl (L.nil (E.aJ ⟨gv84,gl85,x112,(),rfl,rfl,hG87,by rw [hg3];exact h⟩ (sI [1,2,3,4,5,6,7])))))))))))
      exact ln (W.seq (W.condF rfl (W.exit (E.thenX (E.KLX (E.blockX (E.jJ ⟨gv84,gl85,(),rfl,rfl,hG87,h⟩ hI)))))))
     rintro _ _ ⟨gv78,gl79,gu81,rfl,rfl,hG80,h⟩
     rw [M39K7] at h
     exact sr (L.r 2 rfl (ln (W.ret (E.ret1 rfl rfl (fun w1 hw=>(⟨_,_,rfl,⟨(),gv78,gl79,rfl,rfl,hG80,h⟩,hw.s [0,1,3,4,5,2,6]⟩))))))
    rintro gv44 _ ⟨gu43,_,gl45,rfl,rfl,hG42,h⟩
    rw [M39K4] at h
    refine L.nil (E.toV2 (stC [[11]] [Cls w [] [.obj b11 [.int .i64 x10.Item,gv (q0 gx17.toNat) 0,gv (q0 gx17.toNat) 1] 65,.obj b1 [.int .i64 a1] 3,.sl gv15 3 1 (gl16.map I),.sl gv40 68 2 (gl41.map TL.row),.sl gv44 68 2 (gl45.map TL.row),.os gc9]] (Cls w [] [.obj b1 [.int .i64 a1] 3,.sl gv15 3 1 (gl16.map I),.sl gv40 68 2 (gl41.map TL.row),.sl gv44 68 2 (gl45.map TL.row),.os gc9])) 9 (by kernel_rfl) (Sc.stay (sI [0,1,2,3,5]) (Sc.stayD (sI [0,1,2,4]))) (Sc.now (by kernel_rfl) (sI [0,1,3,4,5,6])) (V2.zz [] (Zc.on' (Zc.fin hI) (sI [1,2,3,4,5])) (fun hz17=>(V2.q 10 [] hz17 rfl rfl (Y.buildC (cells:=#[.int .i64 x10.Item,gv40,gv44]) rfl (fun w hw=>by rcases ((As.at_ (hw.get (i:=2) rfl))).shape with ⟨h0,_⟩ | ⟨_,_,h0,_,_⟩ <;> rcases ((As.at_ (hw.get (i:=3) rfl))).shape with ⟨h1,_⟩ | ⟨_,_,h1,_,_⟩ <;> simp only [h0,h1] <;> kernel_rfl)) (V2.eff (i:=11) (by kernel_rfl) rfl (L.storeC (i:=0) sz65 rfl rfl rfl rfl (fun w hw=>(all1 rfl (all1 (As.at_ (hw.get (i:=4) rfl)).one (all1 (As.at_ (hw.get (i:=5) rfl)).one all0)))) rfl nb (L.nil (E.toV2 (stC [] [] (Cls w [] [.obj b1 [.int .i64 a1] 3,.sl gv15 3 1 (gl16.map I),.sl gv40 68 2 (gl41.map TL.row),.sl gv44 68 2 (gl45.map TL.row),.os gc9])) 11 (by kernel_rfl) (Sc.past rfl (Sc.stayD hI)) (Sc.atD (sI [1,3,4,5,6])) (V2.done (by kernel_rfl) (E.thenN (W.seqJ (fun gs D=>∃ gc46,∃ gu48:Unit,∃ gv49 gl50 gx51 gv52 gl53,∃ gu55:Unit,∃ gv56 gl57,∃ gu59:Unit,gs=[(6,gv10),(7,gv49),(8,.func (.func 67) #[] #[pt b1 0]),(10,pt b11 0),(12,u0),(13,.int .i64 (a0.length:Int)),(14,.int .i64 gx17)]∧D=Cls w [] [.obj b11 [.int .i64 gx51,gv52,gv56] 65,.obj b1 [.int .i64 a1] 3,.sl gv10 65 3 (zr TI.rowv gq12 gl11),.sl gv49 3 1 (gl50.map I),.os gc46]∧FzA K gc46 (zs TI.sds gq12 gl11)∧Fz K gc46 gv52 2 (gl53.map TL.row)∧Fz K gc46 gv56 2 (gl57.map TL.row)∧M39K5 gl11 gx17 go1 gl50 gx51 gl53 gl57=some r) ?_ ?_)))))))))))
    ·refine W.block (W.frz (i:=4) rfl rfl rfl ?_)
     intro c98 mo99 hf100
     refine W.frz (i:=4) rfl rfl rfl ?_
     intro c101 mo102 hf103
     refine W.loopJ (fun m gs D=>∃ gc62,∃ gu64:Unit,∃ gv65 gl66 gx67 gv68 gl69,∃ gu71:Unit,∃ gv72 gl73,∃ gu75:Unit,gs=[(6,gv10),(7,gv65),(8,.func (.func 67) #[] #[pt b1 0]),(10,pt b11 0),(12,u0),(13,.int .i64 (a0.length:Int)),(14,.int .i64 gx17)]∧D=Cls w [] [.obj b11 [.int .i64 gx67,gv68,gv72] 65,.obj b1 [.int .i64 a1] 3,.sl gv10 65 3 (zr TI.rowv gq12 gl11),.sl gv65 3 1 (gl66.map I),.os gc62]∧FzA K gc62 (zs TI.sds gq12 gl11)∧Fz K gc62 gv68 2 (gl69.map TL.row)∧Fz K gc62 gv72 2 (gl73.map TL.row)∧M39L2 gl11 gx17 go1 m gl66 gx67 gl69 gl73=some r) ⟨c101,(),gv15,gl16,x10.Item,gv40,gl41,(),gv44,gl45,(),rfl,rfl,((hG42.mo mo99).mo mo102),((hf100 K).mo mo102),(hf103 K),h⟩ ⟨rfl,rfl,rfl,rfl,rfl,rfl,rfl,trivial⟩ hI ?_
     rintro m _ _ ⟨gc62,gu64,gv65,gl66,gx67,gv68,gl69,gu71,gv72,gl73,gu75,rfl,rfl,hG63,hG70,hG74,h⟩
     rcases m with _ | m
     ·rw [M39L2] at h;cases h
     rw [M39L2] at h
     generalize hg2:M39L2 gl11 gx17 go1 m=go2 at h
     rw [M39L2B] at h
     refine W.seqJ (fun gs D=>∃ gu77:Unit,gs=[(6,gv10),(7,gv65),(8,.func (.func 67) #[] #[pt b1 0]),(10,pt b11 0),(12,u0),(13,.int .i64 (a0.length:Int)),(14,.int .i64 gx17)]∧D=Cls w [] [.obj b11 [.int .i64 gx67,gv68,gv72] 65,.obj b1 [.int .i64 a1] 3,.sl gv10 65 3 (zr TI.rowv gq12 gl11),.sl gv65 3 1 (gl66.map I),.os gc62]∧FzA K gc62 (zs TI.sds gq12 gl11)∧M39K6 gl73 gl66 gx67 gl69 go2=some r) ?_ ?_
     ·refine W.seq (W.quietC mixed (by kernel_rfl) (fun _ hw=>hw.drew) (fun hC=>(U.y rfl (Y.fieldP fd65_2 rfl) (U.y rfl (Y.loadP (i:=0) ag63 rfl rfl rfl) (U.y rfl (Y.lenM (g:=TL.row) (l:=gl73) Tryz.underlying63 rfl (fun w' hw=>(hG74.clsP hK hw rfl))) (U.ite h rfl (Y.gtr rfl rfl) (fun c94 h=>?_) (fun c94 h=>?_)))))))
      ·refine U.r 1 rfl (U.take rfl (U.y rfl (Y.loadPW (i:=0) ag65 sz65 rfl rfl rfl) (U.take rfl (U.y rfl (Y.fieldP fd65_2 rfl) (U.take rfl (U.y rfl (Y.loadP (i:=0) ag63 rfl rfl rfl) (U.take rfl (U.m (V:=fun _=>el gv72 ((0:Int).toNat*2)) h rfl (Y.indexM (g:=TL.row) (l:=gl73) Tryz.underlying63 sz68 rfl rfl (fun w' hw=>(hG74.clsP hK hw rfl))) (fun x95 ex95 h=>(U.take rfl (U.y rfl (Y.loadEN (r:=[.int .i64 x95.Tx,.int .i64 x95.Mode]) ag68 sz68 rfl (fun w' hw=>(hG74.clsP hK hw rfl)) (idx_map ex95) rfl) (U.take rfl ?_))))))))))))
       obtain ⟨b96,e97,h⟩:=bind1S h
       refine U.y rfl (Y.does en68 rfl (fun w' hw=>(W68 (⟨gx67,gl69,gl73⟩:TI) x95 gv68 gv72 w' _ e97 (hG70.clsP hK hw rfl) (hG74.clsP hK hw rfl)).mono (fun _ _ h=>h.1))) ?_
       rcases b96 with _ | _
       ·replace h:=iteF h
        exact U.r 1 rfl (U.nil (E.thenN (W.condF rfl (W.exit (E.KSX (E.KLX (E.blockX (E.jJ ⟨gc62,(),gv65,gl66,gx67,gv68,gl69,(),gv72,gl73,(),rfl,rfl,hG63,hG70,hG74,h⟩ hI))))))))
       replace h:=iteT h
       exact U.r 1 rfl (U.nil (E.thenN (W.condT rfl (W.skip (E.jJ ⟨(),rfl,rfl,hG63,h⟩ hI)))))
      exact U.r 8 rfl (U.nil (E.thenN (W.condF rfl (W.exit (E.KSX (E.KLX (E.blockX (E.jJ ⟨gc62,(),gv65,gl66,gx67,gv68,gl69,(),gv72,gl73,(),rfl,rfl,hG63,hG70,hG74,h⟩ hI))))))))
     rintro _ _ ⟨gu77,rfl,rfl,hG76,h⟩
     rw [M39K6] at h
     refine W.block (sr (L.r 1 rfl (L.y rfl (Y.fieldP fd65_2 rfl) (L.y rfl (Y.loadP (i:=0) ag63 rfl rfl rfl) (L.m (V:=fun _=>el gv72 ((0:Int).toNat*2)) h rfl (Y.indexM (g:=TL.row) (l:=gl73) Tryz.underlying63 sz68 rfl rfl (fun w' hw=>(hG74.clsP hK hw rfl))) (fun x26 ex26 h=>(L.y rfl (Y.fieldE fd68_0 rfl) (L.y rfl (Y.loadE (u:=.int .i64 x26.Tx) ag3 rfl (fun w' hw=>(hG74.clsP hK hw rfl)) (idx_map ex26) rfl) (L.litOne rfl Tryz.underlying23 eL3 rfl rfl ?_)))))))))
     intro b27
     refine L.appM (i:=4) (g:=I) (l:=gl66) (more:=[x26.Tx]) h rfl Tryz.underlying23 eL3 rfl rfl rfl (fun w hw=>As.at_ (hw.get (i:=0) rfl)) (plain_ints _) rfl ?_
     intro v28 l29 el29 h
     refine L.r 1 rfl (ln (W.seq (W.drawn2 (k:=7) (stC [[5]] [Cls w [] [.sl v28 3 1 (l29.map I),.sl (sv b27 1) 3 1 (([x26.Tx]).map I),.obj b11 [.int .i64 gx67,gv68,gv72] 65,.obj b1 [.int .i64 a1] 3,.sl gv10 65 3 (zr TI.rowv gq12 gl11),.os gc62]] (Cls w [] [.sl v28 3 1 (l29.map I),.sl (sv b27 1) 3 1 (([x26.Tx]).map I),.obj b1 [.int .i64 a1] 3])) rfl mixed (fun _ hw=>hw.drew) (Sc.now (by kernel_rfl) hI) (V2.zz [5] (Zc.at1 hI) (fun hz76=>(V2.q 0 [5] hz76 rfl rfl (Y.loadPW (i:=2) ag65 sz65 rfl rfl rfl) (V2.zz [] (Zc.on' (Zc.fin hI) (sI [0,1,3])) (fun hz77=>(V2.q 1 [] hz77 rfl rfl (Y.fieldP fd65_2 rfl) (V2.eff (i:=2) (by kernel_rfl) rfl (L.y rfl (Y.loadP (i:=2) ag63 rfl rfl rfl) (L.nil (E.toV2 (stC [[5]] [Cls w [] [.sl v28 3 1 (l29.map I),.sl (sv b27 1) 3 1 (([x26.Tx]).map I),.obj b11 [.int .i64 gx67,gv68,gv72] 65,.obj b1 [.int .i64 a1] 3,.sl gv10 65 3 (zr TI.rowv gq12 gl11),.os gc62]] (Cls w [] [.sl v28 3 1 (l29.map I),.sl (sv b27 1) 3 1 (([x26.Tx]).map I),.obj b1 [.int .i64 a1] 3])) 2 (by kernel_rfl) (Sc.stay hI (Sc.stayD hI)) (Sc.now (by kernel_rfl) hI) (V2.eff (i:=3) (by kernel_rfl) rfl ?_))))))))))))))
     refine L.m (V:=fun _=>el gv72 ((0:Int).toNat*2)) h rfl (Y.indexM (g:=TL.row) (l:=gl73) Tryz.underlying63 sz68 rfl rfl (fun w' hw=>(hG74.clsP hK hw rfl))) (fun x79 ex79 h=>(L.nil (E.toV2 (stC [[5]] [Cls w [] [.sl v28 3 1 (l29.map I),.sl (sv b27 1) 3 1 (([x26.Tx]).map I),.obj b11 [.int .i64 gx67,gv68,gv72] 65,.obj b1 [.int .i64 a1] 3,.sl gv10 65 3 (zr TI.rowv gq12 gl11),.os gc62]] (Cls w [] [.sl v28 3 1 (l29.map I),.sl (sv b27 1) 3 1 (([x26.Tx]).map I),.obj b1 [.int .i64 a1] 3])) 3 (by kernel_rfl) (Sc.stay hI (Sc.stayD hI)) (Sc.now (by kernel_rfl) hI) (V2.zz [5] (Zc.at1 hI) (fun hz81=>(V2.q 4 [5] hz81 rfl rfl (Y.loadEN (r:=[.int .i64 x79.Tx,.int .i64 x79.Mode]) ag68 sz68 rfl (fun w' hw=>(hG74.clsP hK hw rfl)) (idx_map ex79) rfl) (V2.eff (i:=5) (by kernel_rfl) rfl ?_)))))))
     obtain ⟨x82,e87,h⟩:=bind1S h
     refine L.doesFP rfl en69 rfl rfl hK (fun w' hw hs=>W69 (⟨gx67,gl69,gl73⟩:TI) x79 gv68 gv72 _ w' hs.f _ e87 hG70.tok hG74.tok) ?_
     rintro _ c88 c89 mo90 mn91 ma92 ⟨v83,v85,rfl,f84,f86⟩
     refine L.nil (E.toV2 (stC [] [] (Cls w [] [.sl v28 3 1 (l29.map I),.sl (sv b27 1) 3 1 (([x26.Tx]).map I),.obj b1 [.int .i64 a1] 3])) 5 (by kernel_rfl) (Sc.past rfl (Sc.stayD hI)) (Sc.atD (sI [0,1,3])) (V2.eff (i:=6) (by kernel_rfl) rfl (L.storeC (i:=2) sz65 rfl rfl rfl rfl (fun w hw=>(all1 rfl (all1 ((mn91 f84).clsP hK hw rfl).one (all1 ((mn91 f86).clsP hK hw rfl).one all0)))) rfl nb (L.nil (E.toV2 (stC [] [] (Cls w [] [.sl v28 3 1 (l29.map I),.sl (sv b27 1) 3 1 (([x26.Tx]).map I),.obj b1 [.int .i64 a1] 3])) 6 (by kernel_rfl) (Sc.stayD hI) (Sc.atD (sI [0,1,3])) (V2.done (by kernel_rfl) (E.thenN (W.region (L.y rfl (Y.fieldP fd65_2 rfl) (L.y rfl (Y.loadP (i:=2) ag63 rfl rfl rfl) (L.m (V:=fun _=>dropv v85 (1:Int).toNat 2) h rfl (Y.dropM (g:=TL.row) Tryz.underlying63 sz68 rfl rfl (fun w' hw=>((mn91 f86).clsP hK hw rfl))) (fun l93 el93 h=>(L.y rfl (Y.fieldP fd65_2 rfl) (L.storeV (i:=2) sz63 rfl rfl (fun _ hw=>(((mn91 f86).dropM el93).clsP hK hw rfl).one) rfl nb ?_))))))))))))))
     exact L.nil (E.blockN (E.aJ ⟨c89,(),v28,l29,x82.Item,v83,x82.Held,(),dropv v85 (1:Int).toNat 2,l93,(),rfl,rfl,(hG76.mo mo90),(mn91 f84),((mn91 f86).dropM el93),by rw [hg2];exact h⟩ (sI [2,3,4,0,5])))
    rintro _ _ ⟨gc46,gu48,gv49,gl50,gx51,gv52,gl53,gu55,gv56,gl57,gu59,rfl,rfl,hG47,hG54,hG58,h⟩
    rw [M39K5] at h
    refine sr (L.y rfl (Y.fieldP fd65_1 rfl) (L.y rfl (Y.loadP (i:=0) ag63 rfl rfl rfl) (L.y rfl (Y.lenM (g:=TL.row) (l:=gl53) Tryz.underlying63 rfl (fun w' hw=>(hG54.clsP hK hw rfl))) (L.ite h rfl (Y.gtr rfl rfl) (fun c18 h=>?_) (fun c18 h=>?_)))))
    ·refine ln (W.condT rfl (W.region (L.r 1 rfl (L.y rfl (Y.loadPW (i:=0) ag65 sz65 rfl rfl rfl) (L.litAgg rfl Tryz.underlying34 eL65 rfl rfl rfl ?_)))))
     intro b20
     have hz21:FzA K gc46 (zs TI.sds (fun _=>[gv52,gv56]) [(⟨gx51,gl53,gl57⟩:TI)]):=FzA.app (FzA.cons hG54 (FzA.cons hG58 FzA.nil)) FzA.nil
     refine L.to (D:=Cls w [] [.sl (sv b20 1) 65 3 (zr TI.rowv (fun _=>[gv52,gv56]) ([(⟨gx51,gl53,gl57⟩:TI)])),.obj b11 [.int .i64 gx51,gv52,gv56] 65,.obj b1 [.int .i64 a1] 3,.sl gv10 65 3 (zr TI.rowv gq12 gl11),.sl gv49 3 1 (gl50.map I),.os gc46]) hI (L.appHzP (i:=3) (row:=TI.rowv) (sds:=TI.sds) (vs:=gq12) (vs2:=(fun _=>[gv52,gv56])) (l:=gl11) (l2:=[(⟨gx51,gl53,gl57⟩:TI)]) h rfl Tryz.underlying34 eL65 rfl rfl rfl rfl (fun w hw=>As.at_ (hw.get (i:=0) rfl)) plz_TLockItem hK rfl hG47 hz21 ?_)
     intro v23 q24 l22 el22 h hz25
     exact L.r 1 rfl (L.nil (E.blockN (E.jJ ⟨gc46,v23,l22,q24,(),gv49,gl50,rfl,rfl,hz25,h⟩ (sI [3,0,4,5]))))
    exact ln (W.condF rfl (W.skip (E.blockN (E.jJ ⟨gc46,gv10,gl11,gq12,(),gv49,gl50,rfl,rfl,hG47,h⟩ (sI [1,2,3,4])))))
   rintro _ _ ⟨gc18,gv19,gl20,gq21,gu23,gv24,gl25,rfl,rfl,hG22,h⟩
   rw [M39K2] at h
   exact W.region (L.m (V:=fun x9=>.int .i64 x9) h rfl (Y.addM rfl rfl) (fun x9 ex9 h=>(L.r 1 rfl (L.nil (E.aJ ⟨gc18,gv19,gl20,gq21,(),gv24,gl25,x9,rfl,rfl,hG22,by rw [hg1];exact h⟩ hI)))))
  exact ln (W.seq (W.condF rfl (W.exit (E.thenX (E.KLX (E.blockX (E.jJ ⟨gc9,gv10,gl11,gq12,(),gv15,gl16,rfl,rfl,hG13,h⟩ (sI [1,2,3]))))))))
 rintro _ _ ⟨gc1,gv2,gl3,gq4,gu6,gv7,gl8,rfl,rfl,hG5,h⟩
 rw [M39K1] at h
 refine sr (L.r 4 rfl (ln (W.ret (E.frz (i:=0) rfl rfl rfl ?_))))
 intro c2 mo3 hf4
 refine E.frz (i:=0) rfl rfl rfl ?_
 intro c5 mo6 hf7
 refine E.ret2 rfl rfl rfl (fun w1 hw=>?_)
 cases h
 exact ⟨_,_,rfl,⟨c5,rfl,gv2,gq4,gv7,rfl,((hf4 K).mo mo6),((hG5.mo mo3).mo mo6),(hf7 K)⟩,hw⟩
set_option maxRecDepth 100000 in
set_option maxHeartbeats 8000000 in
theorem W17 (rec:(List TI)→(List (Int×(List TOp)))→(List (Int×Int))→(List TOp)→TOp→Option ((List TI)×(List (Int×(List TOp)))×(List (Int×Int))×(List TOp))) (ih:∀ (kI:(List TI)) (kA:(List (Int×(List TOp)))) (kB:(List (Int×Int))) (kD:(List TOp)) (a1:TOp) (pb0:Nat) (kH:Value) (kN:Nat→List Value) (kF:Nat) (kJ:Int→Value) (kE:Nat) (kC:Value) (K:World→Prop) (w:World) (r:((List TI)×(List (Int×(List TOp)))×(List (Int×Int))×(List TOp))) (h:rec kI kA kB kD a1=some r) (F:List Nat) (hK:StbF K w F) (hA0_locks:Fz K [] kH 3 (zr TI.rowv kN kI)) (hD0_locks:FzA K [] (zs TI.sds kN kI)) (hc0:Cls w F [.obj pb0 [kH,.map (some kF),.map (some kE),kC] 47,.mp kF (msrow kJ kA),.ss (msds kJ 40 3 TOp.row kA),.mp kE (mrow (VI .i64) kB),.sl kC 40 3 (kD.map TOp.row)] w),DoesF Tryz.prog 12 [pt pb0 0,.agg #[.int .i64 a1.Tx,.int .i64 a1.Kind,.int .i64 a1.Item]] F w fun u m=>∃ c,∃ y1 z1 z2 y4,u=.tuple #[]∧Fz K c y1 3 (zr TI.rowv z1 r.1)∧FzA K c (zs TI.sds z1 r.1)∧m=[.obj pb0 [y1,.map (some kF),.map (some kE),y4] 47,.mp kF (msrow z2 r.2.1),.ss (msds z2 40 3 TOp.row r.2.1),.mp kE (mrow (VI .i64) r.2.2.1),.sl y4 40 3 (r.2.2.2.map TOp.row),.os c]) (kI:(List TI)) (kA:(List (Int×(List TOp)))) (kB:(List (Int×Int))) (kD:(List TOp)) (a1:Int) (pb0:Nat) (kH:Value) (kN:Nat→List Value) (kF:Nat) (kJ:Int→Value) (kE:Nat) (kC:Value) (K:World→Prop) (w:World) (r:((List TI)×(List (Int×(List TOp)))×(List (Int×Int))×(List TOp))) (h:M17 rec kI kA kB kD a1=some r) (F:List Nat) (hK:StbF K w F) (hA0_locks:Fz K [] kH 3 (zr TI.rowv kN kI)) (hD0_locks:FzA K [] (zs TI.sds kN kI)) (hc0:Cls w F [.obj pb0 [kH,.map (some kF),.map (some kE),kC] 47,.mp kF (msrow kJ kA),.ss (msds kJ 40 3 TOp.row kA),.mp kE (mrow (VI .i64) kB),.sl kC 40 3 (kD.map TOp.row)] w):DoesF Tryz.prog 17 [pt pb0 0,.int .i64 a1] F w fun u m=>∃ c,∃ y1 z1 z2 y4,u=.tuple #[]∧Fz K c y1 3 (zr TI.rowv z1 r.1)∧FzA K c (zs TI.sds z1 r.1)∧m=[.obj pb0 [y1,.map (some kF),.map (some kE),y4] 47,.mp kF (msrow z2 r.2.1),.ss (msds z2 40 3 TOp.row r.2.1),.mp kE (mrow (VI .i64) r.2.2.1),.sl y4 40 3 (r.2.2.2.map TOp.row),.os c]:=by
 rw [M17] at h
 refine body (n:=63) (C:=Cls w F [.obj pb0 [kH,.map (some kF),.map (some kE),kC] 47,.mp kF (msrow kJ kA),.ss (msds kJ 40 3 TOp.row kA),.mp kE (mrow (VI .i64) kB),.sl kC 40 3 (kD.map TOp.row),.os []]) Tryz.func17 rfl rfl rfl hc0.osNil (sr (L.r 1 rfl (nsr (L.r 3 rfl (L.y rfl (Y.fieldP fd47_0 rfl) (L.y rfl (Y.loadP (i:=0) ag34 rfl rfl rfl) (L.r 1 rfl ?_)))))))
 obtain ⟨l1,l6,e9,h⟩:=bind2S h
 refine L.doesFP rfl en39 rfl rfl hK (fun w' hw hs=>W39 kI a1 kH kN _ w' hs.f _ e9 hA0_locks.up.tok hD0_locks.up.tok) ?_
 rintro _ c10 c11 mo12 mn13 ma14 ⟨v2,q4,v7,rfl,f3,f5,f8⟩
 refine L.r 4 rfl (L.y rfl (Y.fieldP fd47_0 rfl) (L.storeV (i:=0) sz34 rfl rfl (fun _ hw=>((mn13 f3).clsP hK hw rfl).one) rfl nb (L.r 1 rfl (nsr (L.r 1 rfl (L.y rfl (Y.lenM (g:=I) (l:=l6) Tryz.underlying23 rfl (fun w' hw=>((mn13 f8).clsP hK hw rfl))) (L.r 1 rfl (ln (W.block ?_)))))))))
 refine W.loopJ (fun m gs D=>∃ gc1,∃ gu3:Unit,∃ gx4 gv5 gl6 gq7,∃ gu9 gu11:Unit,∃ gv12 gl13 gl14 gq15 gl16,gs=[(0,pt pb0 0),(22,v7),(23,.int .i64 (l6.length:Int)),(24,.int .i64 gx4)]∧D=Cls w F [.obj pb0 [gv5,.map (some kF),.map (some kE),gv12] 47,.mp kF (msrow gq15 gl14),.ss (msds gq15 40 3 TOp.row gl14),.mp kE (mrow (VI .i64) gl16),.sl gv12 40 3 (gl13.map TOp.row),.os gc1]∧Fz K gc1 v7 1 (l6.map I)∧Fz K gc1 gv5 3 (zr TI.rowv gq7 gl6)∧FzA K gc1 (zs TI.sds gq7 gl6)∧M17L1 l6 rec m gx4 gl6 gl13 gl14 gl16=some r) ⟨c11,(),0,v2,l1,q4,(),(),kC,kD,kA,kJ,kB,rfl,rfl,(mn13 f8),(mn13 f3),(ma14 f5),h⟩ ⟨rfl,rfl,rfl,rfl,trivial⟩ hI ?_
 rintro m _ _ ⟨gc1,gu3,gx4,gv5,gl6,gq7,gu9,gu11,gv12,gl13,gl14,gq15,gl16,rfl,rfl,hG2,hG8,hG10,h⟩
 rcases m with _ | m
 ·rw [M17L1] at h;cases h
 rw [M17L1] at h
 generalize hg1:M17L1 l6 rec m=go1 at h
 rw [M17L1B] at h
 refine sr (L.ite h rfl (Y.lss rfl rfl) (fun c15 h=>?_) (fun c15 h=>?_))
 ·refine ln (W.seq (W.condT rfl (W.skip (E.thenN (W.seqJ (fun gs D=>∃ gc17,∃ gu19:Unit,∃ gv20 gl21 gq22,∃ gu24 gu26:Unit,∃ gv27 gl28 gl29 gq30 gl31,gs=[(0,pt pb0 0),(22,v7),(23,.int .i64 (l6.length:Int)),(24,.int .i64 gx4)]∧D=Cls w F [.obj pb0 [gv20,.map (some kF),.map (some kE),gv27] 47,.mp kF (msrow gq30 gl29),.ss (msds gq30 40 3 TOp.row gl29),.mp kE (mrow (VI .i64) gl31),.sl gv27 40 3 (gl28.map TOp.row),.os gc17]∧Fz K gc17 v7 1 (l6.map I)∧Fz K gc17 gv20 3 (zr TI.rowv gq22 gl21)∧FzA K gc17 (zs TI.sds gq22 gl21)∧M17K1 gx4 go1 gl21 gl28 gl29 gl31=some r) ?_ ?_)))))
  ·refine W.block (sr (L.m (V:=fun _=>el v7 (gx4.toNat*1)) h rfl (Y.indexM (g:=I) (l:=l6) Tryz.underlying23 sz3 rfl rfl (fun w' hw=>(hG2.clsP hK hw rfl))) (fun x17 ex17 h=>(L.y rfl (Y.loadE1 (u:=.int .i64 x17) ag3 rfl (fun w' hw=>(hG2.clsP hK hw rfl)) (idx_map ex17)) (L.r 1 rfl (nsr (L.r 2 rfl (L.y rfl (Y.fieldP fd47_1 rfl) (L.y rfl (Y.loadP (i:=0) ag44 rfl rfl rfl) (L.r 1 rfl ?_))))))))))
   refine L.y rfl (Y.msLook (i:=1) (us:=gq15) (l:=gl14) Tryz.underlying44 Tryz.underlying3 (by kernel_rfl) rfl rfl rfl) (L.r 1 rfl (nsr (L.r 2 rfl (L.y rfl (Y.fieldP fd47_1 rfl) (L.y rfl (Y.loadP (i:=0) ag44 rfl rfl rfl) (L.r 1 rfl (L.msOut (i:=1) (j:=2) (a:=x17) (us:=gq15) (l:=gl14) (row:=TOp.row) h rfl rfl ?_)))))))
   intro l18 el18 h
   refine L.to (D:=Cls w F [.sl (msVal gq15 gl14 x17) 40 3 (l18.map TOp.row),.obj pb0 [gv5,.map (some kF),.map (some kE),gv12] 47,.mp kF (msrow gq15 gl14),.ss (msds gq15 40 3 TOp.row (mdel gl14 x17)),.mp kE (mrow (VI .i64) gl16),.sl gv12 40 3 (gl13.map TOp.row),.os gc1]) hI (L.msDel (i:=2) (j:=3) (us:=gq15) (l:=gl14) (row:=TOp.row) Tryz.underlying44 Tryz.underlying3 rfl rfl rfl rfl (.inr rfl) (ln (W.seq (W.drawn2 (k:=13) (stC [[9,12],[12]] [Cls w F [.sl (msVal gq15 gl14 x17) 40 3 (l18.map TOp.row),.obj pb0 [gv5,.map (some kF),.map (some kE),gv12] 47,.mp kF (msrow gq15 (mdel gl14 x17)),.ss (msds gq15 40 3 TOp.row (mdel gl14 x17)),.mp kE (mrow (VI .i64) gl16),.sl gv12 40 3 (gl13.map TOp.row),.os gc1],Cls w F [.sl (msVal gq15 gl14 x17) 40 3 (l18.map TOp.row),.obj pb0 [gv5,.map (some kF),.map (some kE),gv12] 47,.mp kF (msrow gq15 (mdel gl14 x17)),.ss (msds gq15 40 3 TOp.row (mdel gl14 x17)),.mp kE (mrow (VI .i64) gl16),.os gc1]] (Cls w F [.sl (msVal gq15 gl14 x17) 40 3 (l18.map TOp.row),.mp kF (msrow gq15 (mdel gl14 x17)),.ss (msds gq15 40 3 TOp.row (mdel gl14 x17)),.mp kE (mrow (VI .i64) gl16),.os gc1])) rfl mixed (fun _ hw=>hw.drew) (Sc.now (by kernel_rfl) hI) (V2.zz [] (Zc.on' (Zc.on' (Zc.fin hI) (sI [0,2,3,4,5])) (sI [0,2,3,4,6])) (fun hz30=>(V2.r [0,1,2] (by kernel_rfl) rfl (V2.q 3 [] hz30 rfl rfl (Y.fieldP fd47_3 rfl) (V2.zz [12] (Zc.on' (Zc.at1 hI) (sI [0,1,2,3,4,6])) (fun hz31=>(V2.q 4 [12] hz31 rfl rfl (Y.loadP (i:=1) ag22 rfl rfl rfl) (V2.r [5] (by kernel_rfl) rfl (V2.m (i:=6) (V':=fun _=>el (msVal gq15 gl14 x17) ((0:Int).toNat*3)) h (Nx2.of [] (by kernel_rfl) rfl hz30) rfl rfl rfl (Y.indexM (g:=TOp.row) (l:=l18) Tryz.underlying22 sz40 rfl rfl (fun w hw=>As.at_ (hw.get (i:=0) rfl))) (fun x32 ex32 h=>(V2.q 7 [] hz30 rfl rfl (Y.loadEN (r:=[.int .i64 x32.Tx,.int .i64 x32.Kind,.int .i64 x32.Item]) ag40 sz40 rfl (fun w hw=>As.at_ (hw.get (i:=0) rfl)) (idx_map ex32) rfl) ?_)))))))))))))))
   refine V2.eff (i:=8) (by kernel_rfl) rfl (L.litAgg rfl Tryz.underlying22 eL40 rfl rfl rfl ?_)
   intro b33
   refine L.nil (E.toV2 (stC [[9,12],[12]] [Cls w F [.sl (sv b33 1) 40 3 (([x32]).map TOp.row),.sl (msVal gq15 gl14 x17) 40 3 (l18.map TOp.row),.obj pb0 [gv5,.map (some kF),.map (some kE),gv12] 47,.mp kF (msrow gq15 (mdel gl14 x17)),.ss (msds gq15 40 3 TOp.row (mdel gl14 x17)),.mp kE (mrow (VI .i64) gl16),.sl gv12 40 3 (gl13.map TOp.row),.os gc1],Cls w F [.sl (sv b33 1) 40 3 (([x32]).map TOp.row),.sl (msVal gq15 gl14 x17) 40 3 (l18.map TOp.row),.obj pb0 [gv5,.map (some kF),.map (some kE),gv12] 47,.mp kF (msrow gq15 (mdel gl14 x17)),.ss (msds gq15 40 3 TOp.row (mdel gl14 x17)),.mp kE (mrow (VI .i64) gl16),.os gc1]] (Cls w F [.sl (sv b33 1) 40 3 (([x32]).map TOp.row),.sl (msVal gq15 gl14 x17) 40 3 (l18.map TOp.row),.mp kF (msrow gq15 (mdel gl14 x17)),.ss (msds gq15 40 3 TOp.row (mdel gl14 x17)),.mp kE (mrow (VI .i64) gl16),.os gc1])) 8 (by kernel_rfl) (Sc.stay (sI [1,2,3,4,5,6,7]) (Sc.stay (sI [1,2,3,4,5,6]) (Sc.stayD (sI [1,2,3,4,5])))) (Sc.now (by kernel_rfl) hI) (V2.eff (i:=9) (by kernel_rfl) rfl (L.appM (i:=6) (g:=TOp.row) (l:=gl13) (more:=[x32]) h rfl Tryz.underlying22 eL40 rfl rfl rfl (fun w hw=>As.at_ (hw.get (i:=0) rfl)) (plain_TOp _) rfl ?_)))
   intro v34 l35 el35 h
   refine L.nil (E.toV2 (stC [[12]] [Cls w F [.sl v34 40 3 (l35.map TOp.row),.sl (sv b33 1) 40 3 (([x32]).map TOp.row),.sl (msVal gq15 gl14 x17) 40 3 (l18.map TOp.row),.obj pb0 [gv5,.map (some kF),.map (some kE),gv12] 47,.mp kF (msrow gq15 (mdel gl14 x17)),.ss (msds gq15 40 3 TOp.row (mdel gl14 x17)),.mp kE (mrow (VI .i64) gl16),.os gc1]] (Cls w F [.sl v34 40 3 (l35.map TOp.row),.sl (sv b33 1) 40 3 (([x32]).map TOp.row),.sl (msVal gq15 gl14 x17) 40 3 (l18.map TOp.row),.mp kF (msrow gq15 (mdel gl14 x17)),.ss (msds gq15 40 3 TOp.row (mdel gl14 x17)),.mp kE (mrow (VI .i64) gl16),.os gc1])) 9 (by kernel_rfl) (Sc.past rfl (Sc.stay (sI [1,2,3,4,5,6,7]) (Sc.stayD (sI [1,2,3,4,5,6])))) (Sc.now (by kernel_rfl) hI) (V2.zz [] (Zc.on' (Zc.fin hI) (sI [0,1,2,4,5,6,7])) (fun hz36=>(V2.r [10] (by kernel_rfl) rfl (V2.q 11 [] hz36 rfl rfl (Y.fieldP fd47_3 rfl) (V2.eff (i:=12) (by kernel_rfl) rfl (L.storeV (i:=3) sz22 rfl rfl (fun _ hw=>(As.at_ (hw.get (i:=0) rfl)).one) rfl nb (L.nil (E.toV2 (stC [] [] (Cls w F [.sl v34 40 3 (l35.map TOp.row),.sl (sv b33 1) 40 3 (([x32]).map TOp.row),.sl (msVal gq15 gl14 x17) 40 3 (l18.map TOp.row),.mp kF (msrow gq15 (mdel gl14 x17)),.ss (msds gq15 40 3 TOp.row (mdel gl14 x17)),.mp kE (mrow (VI .i64) gl16),.os gc1])) 12 (by kernel_rfl) (Sc.past rfl (Sc.stayD hI)) (Sc.atD (sI [0,1,2,4,5,6,7])) (V2.done (by kernel_rfl) (E.thenN (sr (L.r 1 rfl ?_)))))))))))))
   refine L.m (V:=fun _=>dropv (msVal gq15 gl14 x17) (1:Int).toNat 3) h rfl (Y.dropM (g:=TOp.row) Tryz.underlying22 sz40 rfl rfl (fun w hw=>As.at_ (hw.get (i:=2) rfl))) (fun l37 el37 h=>(L.y rfl (Y.lenM (g:=TOp.row) (l:=l37) Tryz.underlying22 rfl (fun w hw=>((As.at_ (hw.get (i:=2) rfl)).dropM el37))) (L.r 1 rfl (ln (W.block (W.loopJ (fun m gs D=>∃ gc32,∃ gu34:Unit,∃ gx35 gv36 gl37 gq38,∃ gu40 gu42:Unit,∃ gv43 gl44 gl45 gq46 gl47,gs=[(0,pt pb0 0),(22,v7),(23,.int .i64 (l6.length:Int)),(24,.int .i64 gx4),(52,dropv (msVal gq15 gl14 x17) (1:Int).toNat 3),(53,.int .i64 (l37.length:Int)),(54,.int .i64 gx35)]∧D=Cls w F [.obj pb0 [gv36,.map (some kF),.map (some kE),gv43] 47,.mp kF (msrow gq46 gl45),.ss (msds gq46 40 3 TOp.row gl45),.mp kE (mrow (VI .i64) gl47),.sl (msVal gq15 gl14 x17) 40 3 (l18.map TOp.row),.sl gv43 40 3 (gl44.map TOp.row),.os gc32]∧Fz K gc32 v7 1 (l6.map I)∧Fz K gc32 gv36 3 (zr TI.rowv gq38 gl37)∧FzA K gc32 (zs TI.sds gq38 gl37)∧M17L2 l37 rec gx4 go1 m gx35 gl37 gl44 gl45 gl47=some r) ⟨gc1,(),0,gv5,gl6,gq7,(),(),v34,l35,(mdel gl14 x17),gq15,gl16,rfl,rfl,hG2,hG8,hG10,h⟩ ⟨rfl,rfl,rfl,rfl,rfl,rfl,rfl,trivial⟩ (sI [3,4,5,6,2,0,7]) ?_))))))
   rintro m _ _ ⟨gc32,gu34,gx35,gv36,gl37,gq38,gu40,gu42,gv43,gl44,gl45,gq46,gl47,rfl,rfl,hG33,hG39,hG41,h⟩
   rcases m with _ | m
   ·rw [M17L2] at h;cases h
   rw [M17L2] at h
   generalize hg2:M17L2 l37 rec gx4 go1 m=go2 at h
   rw [M17L2B] at h
   refine sr (L.ite h rfl (Y.lss rfl rfl) (fun c38 h=>?_) (fun c38 h=>?_))
   ·refine ln (W.seq (W.condT rfl (W.skip (E.thenN (W.seq (W.block (sr (L.m (V:=fun _=>el (dropv (msVal gq15 gl14 x17) (1:Int).toNat 3) (gx35.toNat*3)) h rfl (Y.indexM (g:=TOp.row) (l:=l37) Tryz.underlying22 sz40 rfl rfl (fun w hw=>((As.at_ (hw.get (i:=4) rfl)).dropM el37))) (fun x39 ex39 h=>(L.y rfl (Y.loadEN (r:=[.int .i64 x39.Tx,.int .i64 x39.Kind,.int .i64 x39.Item]) ag40 sz40 rfl (fun w hw=>((As.at_ (hw.get (i:=4) rfl)).dropM el37)) (idx_map ex39) rfl) (L.alloc rfl ze40 ?_)))))))))))
    intro b40
    refine L.store (i:=0) (vs:=[.int .i64 x39.Tx,.int .i64 x39.Kind,.int .i64 x39.Item]) sz40 rfl rfl rfl rfl (by simp [Value.oneCell',Value.cells,st,pt,el]) rfl nb (nr (L.r 1 rfl (L.y rfl (Y.loadPW (i:=0) ag40 sz40 rfl rfl rfl) (L.to (D:=Cls w F [.obj pb0 [gv36,.map (some kF),.map (some kE),gv43] 47,.mp kF (msrow gq46 gl45),.ss (msds gq46 40 3 TOp.row gl45),.mp kE (mrow (VI .i64) gl47),.sl gv43 40 3 (gl44.map TOp.row),.obj b40 [.int .i64 x39.Tx,.int .i64 x39.Kind,.int .i64 x39.Item] 40,.sl (msVal gq15 gl14 x17) 40 3 (l18.map TOp.row),.os gc32]) (sI [1,2,3,4,6,0,5,7]) ?_))))
    obtain ⟨l41,l42,l43,l44,e45,h⟩:=bind4S h
    refine L.doesP (A:=[.obj pb0 [gv36,.map (some kF),.map (some kE),gv43] 47,.mp kF (msrow gq46 gl45),.ss (msds gq46 40 3 TOp.row gl45),.mp kE (mrow (VI .i64) gl47),.sl gv43 40 3 (gl44.map TOp.row)]) (M:=[.obj b40 [.int .i64 x39.Tx,.int .i64 x39.Kind,.int .i64 x39.Item] 40,.sl (msVal gq15 gl14 x17) 40 3 (l18.map TOp.row),.os gc32]) rfl en12 rfl (fun w' hw=>ih gl37 gl45 gl47 gl44 x39 pb0 gv36 gq38 kF gq46 kE gv43 (Kn K _) w' _ e45 _ (hK.knF hw rfl) hG39.tok hG41.tok hw.lend) ?_
    rintro _ _ ⟨c52,v46,q47,q50,v51,rfl,f48,f49,rfl⟩
    refine L.to (D:=Cls w F [.obj pb0 [v46,.map (some kF),.map (some kE),v51] 47,.mp kF (msrow q50 l42),.ss (msds q50 40 3 TOp.row l42),.mp kE (mrow (VI .i64) l43),.sl v51 40 3 (l44.map TOp.row),.os c52,.obj b40 [.int .i64 x39.Tx,.int .i64 x39.Kind,.int .i64 x39.Item] 40,.sl (msVal gq15 gl14 x17) 40 3 (l18.map TOp.row),.os gc32]) hI (L.osJoin (K:=K) (i:=5) rfl rfl rfl ?_)
    intro c53 mo54 mn55 ma56
    exact L.to (D:=Cls w F [.obj pb0 [v46,.map (some kF),.map (some kE),v51] 47,.mp kF (msrow q50 l42),.ss (msds q50 40 3 TOp.row l42),.mp kE (mrow (VI .i64) l43),.sl v51 40 3 (l44.map TOp.row),.obj b40 [.int .i64 x39.Tx,.int .i64 x39.Kind,.int .i64 x39.Item] 40,.sl (msVal gq15 gl14 x17) 40 3 (l18.map TOp.row),.os c53]) hI (L.nil (E.blockN (E.thenN (W.region (L.m (V:=fun x57=>.int .i64 x57) h rfl (Y.addM rfl rfl) (fun x57 ex57 h=>(L.r 1 rfl (L.nil (E.aJ ⟨c53,(),x57,v46,l41,q47,(),(),v51,l44,l42,q50,l43,rfl,rfl,(hG33.mo mo54),(mn55 f48),(ma56 f49),by rw [hg2];exact h⟩ (sI [0,1,2,3,6,4,7]))))))))))
   exact ln (W.seq (W.condF rfl (W.exit (E.thenX (E.KLX (E.blockX (E.blockN (E.jJ ⟨gc32,(),gv36,gl37,gq38,(),(),gv43,gl44,gl45,gq46,gl47,rfl,rfl,hG33,hG39,hG41,h⟩ (sI [0,1,2,3,5,6])))))))))
  rintro _ _ ⟨gc17,gu19,gv20,gl21,gq22,gu24,gu26,gv27,gl28,gl29,gq30,gl31,rfl,rfl,hG18,hG23,hG25,h⟩
  rw [M17K1] at h
  exact W.region (L.m (V:=fun x16=>.int .i64 x16) h rfl (Y.addM rfl rfl) (fun x16 ex16 h=>(L.r 1 rfl (L.nil (E.aJ ⟨gc17,(),x16,gv20,gl21,gq22,(),(),gv27,gl28,gl29,gq30,gl31,rfl,rfl,hG18,hG23,hG25,by rw [hg1];exact h⟩ hI)))))
 refine ln (W.seq (W.condF rfl (W.exit (E.thenX (E.KLX (E.blockX (E.end0 rfl (fun w1 hw=>?_))))))))
 cases h
 exact ⟨_,_,rfl,⟨gc1,gv5,gq7,_,_,rfl,hG8,hG10,rfl⟩,hw⟩
set_option maxRecDepth 100000 in
set_option maxHeartbeats 8000000 in
theorem W41 (a0:TI) (a1:TL) (u0_0:Value) (u0_1:Value) (K:World→Prop) (w:World) (hK:StbF K w []) (r:(TI×Bool)) (h:M41 a0 a1=some r) (hA0_0:Fz K [] u0_0 2 (a0.Held.map TL.row)) (hA0_1:Fz K [] u0_1 2 (a0.Queue.map TL.row)):Does Tryz.prog 41 [.agg #[.int .i64 a0.Item,u0_0,u0_1],.agg #[.int .i64 a1.Tx,.int .i64 a1.Mode]] w fun u m=>∃ c,m=[.os c]∧∃ v0 v1,u=.tuple #[.agg #[.int .i64 r.1.Item,v0,v1],.bool r.2]∧Fz K c v0 2 (r.1.Held.map TL.row)∧Fz K c v1 2 (r.1.Queue.map TL.row):=by
 rw [M41] at h
 refine body (n:=61) Tryz.func41 rfl rfl rfl (Cls.reflF w) (sr (L.box rfl rfl ?_))
 intro b1
 refine L.box rfl rfl ?_
 intro b2
 refine L.alloc rfl ze65 ?_
 intro b3
 refine L.r 1 rfl (ln (W.seqJ (fun gs D=>∃ gb1,gs=[(2,pt b1 0),(3,pt b2 0),(4,pt b3 0),(6,.bool gb1)]∧D=Cls w [] [.obj b3 [.int .i64 0,.slice none 0 0,.slice none 0 0] 65,.obj b2 [.int .i64 a1.Tx,.int .i64 a1.Mode] 68,.obj b1 [.int .i64 a0.Item,u0_0,u0_1] 65,.os []]∧M41K1 a0 a1 gb1=some r) ?_ ?_))
 ·refine W.region (L.y rfl (Y.fieldP fd65_1 rfl) (L.y rfl (Y.loadP (i:=2) ag63 rfl rfl rfl) (L.y rfl (Y.fieldP fd68_0 rfl) (L.y rfl (Y.loadP (i:=1) ag3 rfl rfl rfl) ?_))))
  obtain ⟨x105,e106,h⟩:=bind1S h
  refine L.y rfl (Y.does en40 rfl (fun w' hw=>(W40 a0.Held a1.Tx u0_0 w' _ e106 (hA0_0.up.clsP hK hw rfl)).mono (fun _ _ h=>h.1))) (L.ite h rfl (Y.gtr rfl rfl) (fun c107 h=>?_) (fun c107 h=>?_))
  ·exact L.r 1 rfl (L.nil (E.jJ ⟨true,rfl,rfl,h⟩ hI))
  exact L.r 1 rfl (L.nil (E.jJ ⟨false,rfl,rfl,h⟩ hI))
 rintro _ _ ⟨gb1,rfl,rfl,h⟩
 rw [M41K1] at h
 rcases gb1 with _ | _
 ·replace h:=iteF h
  refine W.seqJ (fun gs D=>gs=[(2,pt b1 0),(3,pt b2 0),(4,pt b3 0),(6,.bool false)]∧D=Cls w [] [.obj b3 [.int .i64 0,.slice none 0 0,.slice none 0 0] 65,.obj b2 [.int .i64 a1.Tx,.int .i64 a1.Mode] 68,.obj b1 [.int .i64 a0.Item,u0_0,u0_1] 65,.os []]∧M41K2 a0 a1=some r) ?_ ?_
  ·refine sr (L.y rfl (Y.loadPW (i:=2) ag65 sz65 rfl rfl rfl) (L.y rfl (Y.loadPW (i:=1) ag68 sz68 rfl rfl rfl) ?_))
   obtain ⟨b38,e39,h⟩:=bind1S h
   refine L.y rfl (Y.does en68 rfl (fun w' hw=>(W68 a0 a1 u0_0 u0_1 w' _ e39 (hA0_0.up.clsP hK hw rfl) (hA0_1.up.clsP hK hw rfl)).mono (fun _ _ h=>h.1))) ?_
   rcases b38 with _ | _
   ·replace h:=iteF h
    exact L.r 9 rfl (ln (W.condF rfl (W.skip (E.jJ ⟨rfl,rfl,h⟩ hI))))
   replace h:=iteT h
   refine L.r 3 rfl (L.take rfl (L.y rfl (Y.fieldP fd65_2 rfl) (L.take rfl (L.y rfl (Y.loadP (i:=2) ag63 rfl rfl rfl) (L.take rfl (L.y rfl (Y.lenM (g:=TL.row) (l:=a0.Queue) Tryz.underlying63 rfl (fun w' hw=>(hA0_1.up.clsP hK hw rfl))) (L.take rfl (L.ite h rfl (Y.eql rfl rfl) (fun c40 h=>?_) (fun c40 h=>?_)))))))))
   ·refine L.r 2 rfl (ln (W.condT rfl (sr (L.y rfl (Y.loadPW (i:=2) ag65 sz65 rfl rfl rfl) (L.y rfl (Y.loadPW (i:=1) ag68 sz68 rfl rfl rfl) ?_)))))
    obtain ⟨x41,e46,h⟩:=bind1S h
    refine L.doesFP rfl en69 rfl rfl hK (fun w' hw hs=>W69 a0 a1 u0_0 u0_1 _ w' hs.f _ e46 hA0_0.up.tok hA0_1.up.tok) ?_
    rintro _ c47 c48 mo49 mn50 ma51 ⟨v42,v44,rfl,f43,f45⟩
    refine L.storeC (i:=0) sz65 rfl rfl rfl rfl (fun w hw=>(all1 rfl (all1 ((mn50 f43).clsP hK hw rfl).one (all1 ((mn50 f45).clsP hK hw rfl).one all0)))) rfl nb (L.r 1 rfl (ln (W.ret (E.KSR (E.retR2 rfl (Rv.cellW (i:=0) ag65 sz65 rfl rfl rfl) (Rv.tmp rfl) (fun w1 hw=>?_))))))
    cases h
    exact ⟨_,_,rfl,⟨c48,rfl,v42,v44,rfl,(mn50 f43),(mn50 f45)⟩,hw.s [3]⟩
   exact L.r 2 rfl (ln (W.condF rfl (W.skip (E.jJ ⟨rfl,rfl,h⟩ hI))))
  rintro _ _ ⟨rfl,rfl,h⟩
  rw [M41K2] at h
  refine sr (L.y rfl (Y.fieldP fd65_2 rfl) (L.y rfl (Y.loadP (i:=2) ag63 rfl rfl rfl) (L.y rfl (Y.lenM (g:=TL.row) (l:=a0.Queue) Tryz.underlying63 rfl (fun w' hw=>(hA0_1.up.clsP hK hw rfl))) (L.r 1 rfl (ln (W.seqJ (fun gs D=>gs=[(2,pt b1 0),(3,pt b2 0),(4,pt b3 0),(7,.int .i64 (a0.Queue.length:Int))]∧D=Cls w [] [.obj b3 [.int .i64 0,.slice none 0 0,.slice none 0 0] 65,.obj b2 [.int .i64 a1.Tx,.int .i64 a1.Mode] 68,.obj b1 [.int .i64 a0.Item,u0_0,u0_1] 65,.os []]∧M41K3 a0 a1=some r) ?_ ?_))))))
  ·exact sr (L.r 1 rfl (ln (W.condF rfl (W.skip (E.jJ ⟨rfl,rfl,h⟩ hI)))))
  rintro _ _ ⟨rfl,rfl,h⟩
  rw [M41K3] at h
  refine W.seqJ (fun gs D=>∃ gv2 gl3,gs=[(2,pt b1 0),(4,pt b3 0)]∧D=Cls w [] [.obj b3 [.int .i64 0,.slice none 0 0,.slice none 0 0] 65,.obj b1 [.int .i64 a0.Item,u0_0,gv2] 65,.sl gv2 68 2 (gl3.map TL.row),.os []]∧M41K4 a0 gl3=some r) ?_ ?_
  ·refine W.drawn2 (k:=9) (stC [[6,8],[8]] [Cls w [] [.obj b3 [.int .i64 0,.slice none 0 0,.slice none 0 0] 65,.obj b2 [.int .i64 a1.Tx,.int .i64 a1.Mode] 68,.obj b1 [.int .i64 a0.Item,u0_0,u0_1] 65,.os []],Cls w [] [.obj b3 [.int .i64 0,.slice none 0 0,.slice none 0 0] 65,.obj b2 [.int .i64 a1.Tx,.int .i64 a1.Mode] 68,.obj b1 [.int .i64 a0.Item,u0_0,u0_1] 65,.os []]] (Cls w [] [.obj b3 [.int .i64 0,.slice none 0 0,.slice none 0 0] 65,.obj b2 [.int .i64 a1.Tx,.int .i64 a1.Mode] 68,.os []])) rfl mixed (fun _ hw=>hw.drew) (Sc.now (by kernel_rfl) hI) (V2.zz [] (Zc.on' (Zc.on' (Zc.fin hI) (sI [0,1,3])) (sI [0,1,3])) (fun hz22=>(V2.q 0 [] hz22 rfl rfl (Y.fieldP fd65_2 rfl) (V2.zz [8] (Zc.on' (Zc.at1 hI) hI) (fun hz23=>(V2.q 1 [8] hz23 rfl rfl (Y.loadP (i:=2) ag63 rfl rfl rfl) (V2.r [3] (by kernel_rfl) rfl (V2.q 4 [] hz22 rfl rfl (Y.loadPW (i:=1) ag68 sz68 rfl rfl rfl) (V2.eff2 (i1:=2) (i2:=5) (by kernel_rfl) rfl rfl ?_ ?_)))))))))
   ·obtain ⟨l24,e26,h⟩:=bind1S h
    refine L.does rfl en54 rfl (fun w' hw=>W54 a0.Queue u0_1 w' _ e26 (hA0_1.up.clsP hK hw rfl)) ?_
    rintro v25 _ ⟨_,rfl,rfl⟩
    refine L.nil (E.toV2 (stC [[6,8],[8]] [Cls w [] [.sl v25 68 2 (l24.map TL.row),.obj b3 [.int .i64 0,.slice none 0 0,.slice none 0 0] 65,.obj b2 [.int .i64 a1.Tx,.int .i64 a1.Mode] 68,.obj b1 [.int .i64 a0.Item,u0_0,u0_1] 65,.os []],Cls w [] [.obj b3 [.int .i64 0,.slice none 0 0,.slice none 0 0] 65,.obj b2 [.int .i64 a1.Tx,.int .i64 a1.Mode] 68,.obj b1 [.int .i64 a0.Item,u0_0,u0_1] 65,.os []]] (Cls w [] [.obj b3 [.int .i64 0,.slice none 0 0,.slice none 0 0] 65,.obj b2 [.int .i64 a1.Tx,.int .i64 a1.Mode] 68,.os []])) 2 (by kernel_rfl) (Sc.stay (sI [1,2,3,4]) (Sc.stay hI (Sc.stayD hI))) (Sc.now (by kernel_rfl) hI) (V2.eff (i:=5) (by kernel_rfl) rfl (L.litAgg rfl Tryz.underlying63 eL68 rfl rfl rfl ?_)))
    intro b27
    refine L.nil (E.toV2 (stC [[6,8],[8]] [Cls w [] [.sl (sv b27 1) 68 2 (([a1]).map TL.row),.sl v25 68 2 (l24.map TL.row),.obj b3 [.int .i64 0,.slice none 0 0,.slice none 0 0] 65,.obj b2 [.int .i64 a1.Tx,.int .i64 a1.Mode] 68,.obj b1 [.int .i64 a0.Item,u0_0,u0_1] 65,.os []],Cls w [] [.sl (sv b27 1) 68 2 (([a1]).map TL.row),.obj b3 [.int .i64 0,.slice none 0 0,.slice none 0 0] 65,.obj b2 [.int .i64 a1.Tx,.int .i64 a1.Mode] 68,.obj b1 [.int .i64 a0.Item,u0_0,u0_1] 65,.os []]] (Cls w [] [.sl (sv b27 1) 68 2 (([a1]).map TL.row),.obj b3 [.int .i64 0,.slice none 0 0,.slice none 0 0] 65,.obj b2 [.int .i64 a1.Tx,.int .i64 a1.Mode] 68,.os []])) 5 (by kernel_rfl) (Sc.stay (sI [1,2,3,4,5]) (Sc.stay (sI [1,2,3,4]) (Sc.stayD (sI [1,2,3])))) (Sc.now (by kernel_rfl) hI) (V2.eff (i:=6) (by kernel_rfl) rfl (L.insRD (i:=1) (j:=0) (l:=l24) (x1:=a1) (a:=(a0.Queue.length:Int)) h wInsR36 (fun _=>rfl) rfl en36 rfl rfl rfl rfl rfl (by decide) ?_)))
    intro v29 l28 el28 h
    exact L.nil (E.toV2 (stC [[8]] [Cls w [] [.sl (sv b27 1) 68 2 (([a1]).map TL.row),.sl v29 68 2 (l28.map TL.row),.obj b3 [.int .i64 0,.slice none 0 0,.slice none 0 0] 65,.obj b2 [.int .i64 a1.Tx,.int .i64 a1.Mode] 68,.obj b1 [.int .i64 a0.Item,u0_0,u0_1] 65,.os []]] (Cls w [] [.sl (sv b27 1) 68 2 (([a1]).map TL.row),.sl v29 68 2 (l28.map TL.row),.obj b3 [.int .i64 0,.slice none 0 0,.slice none 0 0] 65,.obj b2 [.int .i64 a1.Tx,.int .i64 a1.Mode] 68,.os []])) 6 (by kernel_rfl) (Sc.past rfl (Sc.stay (sI [0,2,3,4,5]) (Sc.stayD (sI [0,2,3,4])))) (Sc.now (by kernel_rfl) hI) (V2.zz [] (Zc.on' (Zc.fin hI) (sI [0,1,2,3,5])) (fun hz30=>(V2.q 7 [] hz30 rfl rfl (Y.fieldP fd65_2 rfl) (V2.eff (i:=8) (by kernel_rfl) rfl (L.storeV (i:=4) sz63 rfl rfl (fun _ hw=>(As.at_ (hw.get (i:=1) rfl)).one) rfl nb (L.nil (E.toV2 (stC [] [] (Cls w [] [.sl (sv b27 1) 68 2 (([a1]).map TL.row),.sl v29 68 2 (l28.map TL.row),.obj b3 [.int .i64 0,.slice none 0 0,.slice none 0 0] 65,.obj b2 [.int .i64 a1.Tx,.int .i64 a1.Mode] 68,.os []])) 8 (by kernel_rfl) (Sc.past rfl (Sc.stayD hI)) (Sc.atD (sI [0,1,2,3,5])) (V2.done (by kernel_rfl) (E.jJ ⟨v29,l28,rfl,rfl,h⟩ (sI [2,4,1,5])))))))))))
   refine L.litAgg rfl Tryz.underlying63 eL68 rfl rfl rfl ?_
   intro b31
   refine L.nil (E.toV2 (stC [[6,8],[8]] [Cls w [] [.sl (sv b31 1) 68 2 (([a1]).map TL.row),.obj b3 [.int .i64 0,.slice none 0 0,.slice none 0 0] 65,.obj b2 [.int .i64 a1.Tx,.int .i64 a1.Mode] 68,.obj b1 [.int .i64 a0.Item,u0_0,u0_1] 65,.os []],Cls w [] [.sl (sv b31 1) 68 2 (([a1]).map TL.row),.obj b3 [.int .i64 0,.slice none 0 0,.slice none 0 0] 65,.obj b2 [.int .i64 a1.Tx,.int .i64 a1.Mode] 68,.obj b1 [.int .i64 a0.Item,u0_0,u0_1] 65,.os []]] (Cls w [] [.sl (sv b31 1) 68 2 (([a1]).map TL.row),.obj b3 [.int .i64 0,.slice none 0 0,.slice none 0 0] 65,.obj b2 [.int .i64 a1.Tx,.int .i64 a1.Mode] 68,.os []])) 5 (by kernel_rfl) (Sc.stay (sI [1,2,3,4]) (Sc.stay (sI [1,2,3,4]) (Sc.stayD (sI [1,2,3])))) (Sc.now (by kernel_rfl) hI) (V2.eff (i:=2) (by kernel_rfl) rfl ?_))
   obtain ⟨l32,e34,h⟩:=bind1S h
   refine L.does rfl en54 rfl (fun w' hw=>W54 a0.Queue u0_1 w' _ e34 (hA0_1.up.clsP hK hw rfl)) ?_
   rintro v33 _ ⟨_,rfl,rfl⟩
   refine L.nil (E.toV2 (stC [[6,8],[8]] [Cls w [] [.sl v33 68 2 (l32.map TL.row),.sl (sv b31 1) 68 2 (([a1]).map TL.row),.obj b3 [.int .i64 0,.slice none 0 0,.slice none 0 0] 65,.obj b2 [.int .i64 a1.Tx,.int .i64 a1.Mode] 68,.obj b1 [.int .i64 a0.Item,u0_0,u0_1] 65,.os []],Cls w [] [.sl (sv b31 1) 68 2 (([a1]).map TL.row),.obj b3 [.int .i64 0,.slice none 0 0,.slice none 0 0] 65,.obj b2 [.int .i64 a1.Tx,.int .i64 a1.Mode] 68,.obj b1 [.int .i64 a0.Item,u0_0,u0_1] 65,.os []]] (Cls w [] [.sl (sv b31 1) 68 2 (([a1]).map TL.row),.obj b3 [.int .i64 0,.slice none 0 0,.slice none 0 0] 65,.obj b2 [.int .i64 a1.Tx,.int .i64 a1.Mode] 68,.os []])) 2 (by kernel_rfl) (Sc.stay (sI [1,2,3,4,5]) (Sc.stay hI (Sc.stayD hI))) (Sc.now (by kernel_rfl) hI) (V2.eff (i:=6) (by kernel_rfl) rfl (L.insRD (i:=0) (j:=1) (l:=l32) (x1:=a1) (a:=(a0.Queue.length:Int)) h wInsR36 (fun _=>rfl) rfl en36 rfl rfl rfl rfl rfl (by decide) ?_)))
   intro v36 l35 el35 h
   exact L.nil (E.toV2 (stC [[8]] [Cls w [] [.sl v36 68 2 (l35.map TL.row),.sl (sv b31 1) 68 2 (([a1]).map TL.row),.obj b3 [.int .i64 0,.slice none 0 0,.slice none 0 0] 65,.obj b2 [.int .i64 a1.Tx,.int .i64 a1.Mode] 68,.obj b1 [.int .i64 a0.Item,u0_0,u0_1] 65,.os []]] (Cls w [] [.sl v36 68 2 (l35.map TL.row),.sl (sv b31 1) 68 2 (([a1]).map TL.row),.obj b3 [.int .i64 0,.slice none 0 0,.slice none 0 0] 65,.obj b2 [.int .i64 a1.Tx,.int .i64 a1.Mode] 68,.os []])) 6 (by kernel_rfl) (Sc.past rfl (Sc.stay (sI [1,2,3,4,5]) (Sc.stayD (sI [1,2,3,4])))) (Sc.now (by kernel_rfl) hI) (V2.zz [] (Zc.on' (Zc.fin hI) (sI [0,1,2,3,5])) (fun hz37=>(V2.q 7 [] hz37 rfl rfl (Y.fieldP fd65_2 rfl) (V2.eff (i:=8) (by kernel_rfl) rfl (L.storeV (i:=4) sz63 rfl rfl (fun _ hw=>(As.at_ (hw.get (i:=0) rfl)).one) rfl nb (L.nil (E.toV2 (stC [] [] (Cls w [] [.sl v36 68 2 (l35.map TL.row),.sl (sv b31 1) 68 2 (([a1]).map TL.row),.obj b3 [.int .i64 0,.slice none 0 0,.slice none 0 0] 65,.obj b2 [.int .i64 a1.Tx,.int .i64 a1.Mode] 68,.os []])) 8 (by kernel_rfl) (Sc.past rfl (Sc.stayD hI)) (Sc.atD (sI [0,1,2,3,5])) (V2.done (by kernel_rfl) (E.jJ ⟨v36,l35,rfl,rfl,h⟩ (sI [2,4,0,5])))))))))))
  rintro _ _ ⟨gv2,gl3,rfl,rfl,h⟩
  rw [M41K4] at h
  refine sr (L.y rfl (Y.loadPW (i:=1) ag65 sz65 rfl rfl rfl) (L.storeC (i:=0) sz65 rfl rfl rfl rfl (fun w hw=>(all1 rfl (all1 (hA0_0.up.clsP hK hw rfl).one (all1 (As.at_ (hw.get (i:=2) rfl)).one all0)))) rfl nb (L.r 1 rfl (ln (W.ret (E.frz (i:=2) rfl rfl rfl ?_))))))
  intro c4 mo5 hf6
  refine E.retR2 rfl (Rv.cellW (i:=0) ag65 sz65 rfl rfl rfl) (Rv.tmp rfl) (fun w1 hw=>?_)
  cases h
  exact ⟨_,_,rfl,⟨c4,rfl,u0_0,gv2,rfl,hA0_0.up,(hf6 K)⟩,hw.s [2]⟩
 replace h:=iteT h
 refine W.seqJ (fun gs D=>gs=[(2,pt b1 0),(3,pt b2 0),(4,pt b3 0),(6,.bool true)]∧D=Cls w [] [.obj b3 [.int .i64 0,.slice none 0 0,.slice none 0 0] 65,.obj b2 [.int .i64 a1.Tx,.int .i64 a1.Mode] 68,.obj b1 [.int .i64 a0.Item,u0_0,u0_1] 65,.os []]∧M41K5 a0 a1=some r) ?_ ?_
 ·refine sr (L.y rfl (Y.loadPW (i:=2) ag65 sz65 rfl rfl rfl) (L.y rfl (Y.loadPW (i:=1) ag68 sz68 rfl rfl rfl) ?_))
  obtain ⟨b92,e93,h⟩:=bind1S h
  refine L.y rfl (Y.does en68 rfl (fun w' hw=>(W68 a0 a1 u0_0 u0_1 w' _ e93 (hA0_0.up.clsP hK hw rfl) (hA0_1.up.clsP hK hw rfl)).mono (fun _ _ h=>h.1))) ?_
  rcases b92 with _ | _
  ·replace h:=iteF h
   exact L.r 9 rfl (ln (W.condF rfl (W.skip (E.jJ ⟨rfl,rfl,h⟩ hI))))
  replace h:=iteT h
  refine L.r 9 rfl (ln (W.condT rfl (sr (L.y rfl (Y.loadPW (i:=2) ag65 sz65 rfl rfl rfl) (L.y rfl (Y.loadPW (i:=1) ag68 sz68 rfl rfl rfl) ?_)))))
  obtain ⟨x94,e99,h⟩:=bind1S h
  refine L.doesFP rfl en69 rfl rfl hK (fun w' hw hs=>W69 a0 a1 u0_0 u0_1 _ w' hs.f _ e99 hA0_0.up.tok hA0_1.up.tok) ?_
  rintro _ c100 c101 mo102 mn103 ma104 ⟨v95,v97,rfl,f96,f98⟩
  refine L.storeC (i:=0) sz65 rfl rfl rfl rfl (fun w hw=>(all1 rfl (all1 ((mn103 f96).clsP hK hw rfl).one (all1 ((mn103 f98).clsP hK hw rfl).one all0)))) rfl nb (L.r 1 rfl (ln (W.ret (E.KSR (E.retR2 rfl (Rv.cellW (i:=0) ag65 sz65 rfl rfl rfl) (Rv.tmp rfl) (fun w1 hw=>?_))))))
  cases h
  exact ⟨_,_,rfl,⟨c101,rfl,v95,v97,rfl,(mn103 f96),(mn103 f98)⟩,hw.s [3]⟩
 rintro _ _ ⟨rfl,rfl,h⟩
 rw [M41K5] at h
 refine sr (L.y rfl (Y.fieldP fd65_2 rfl) (L.y rfl (Y.loadP (i:=2) ag63 rfl rfl rfl) (L.y rfl (Y.lenM (g:=TL.row) (l:=a0.Queue) Tryz.underlying63 rfl (fun w' hw=>(hA0_1.up.clsP hK hw rfl))) (L.r 1 rfl (ln (W.seqJ (fun gs D=>∃ gx4,gs=[(2,pt b1 0),(3,pt b2 0),(4,pt b3 0),(7,.int .i64 gx4)]∧D=Cls w [] [.obj b3 [.int .i64 0,.slice none 0 0,.slice none 0 0] 65,.obj b2 [.int .i64 a1.Tx,.int .i64 a1.Mode] 68,.obj b1 [.int .i64 a0.Item,u0_0,u0_1] 65,.os []]∧M41K6 a0 a1 gx4=some r) ?_ ?_))))))
 ·refine sr (L.r 1 rfl (ln (W.condT rfl (sr (L.r 1 rfl (ln (W.block (W.loopJ (fun m gs D=>∃ gx7,gs=[(2,pt b1 0),(3,pt b2 0),(4,pt b3 0),(7,.int .i64 gx7)]∧D=Cls w [] [.obj b3 [.int .i64 0,.slice none 0 0,.slice none 0 0] 65,.obj b2 [.int .i64 a1.Tx,.int .i64 a1.Mode] 68,.obj b1 [.int .i64 a0.Item,u0_0,u0_1] 65,.os []]∧M41L1 a0 a1 m gx7=some r) ⟨0,rfl,rfl,h⟩ ⟨rfl,rfl,rfl,rfl,trivial⟩ hI ?_))))))))
  rintro m _ _ ⟨gx7,rfl,rfl,h⟩
  rcases m with _ | m
  ·rw [M41L1] at h;cases h
  rw [M41L1] at h
  generalize hg1:M41L1 a0 a1 m=go1 at h
  rw [M41L1B] at h
  refine W.seq (W.seq (W.quietC mixed (by kernel_rfl) (fun _ hw=>hw.drew) (fun hC=>(U.r 1 rfl (U.y rfl (Y.fieldP fd65_2 rfl) (U.y rfl (Y.loadP (i:=2) ag63 rfl rfl rfl) (U.y rfl (Y.lenM (g:=TL.row) (l:=a0.Queue) Tryz.underlying63 rfl (fun w' hw=>(hA0_1.up.clsP hK hw rfl))) (U.ite h rfl (Y.lss rfl rfl) (fun c86 h=>?_) (fun c86 h=>?_)))))))))
  ·refine U.r 1 rfl (U.take rfl (U.y rfl (Y.fieldP fd65_1 rfl) (U.take rfl (U.y rfl (Y.loadP (i:=2) ag63 rfl rfl rfl) (U.take rfl (U.y rfl (Y.fieldP fd65_2 rfl) (U.take rfl (U.y rfl (Y.loadP (i:=2) ag63 rfl rfl rfl) (U.r 1 rfl (U.take rfl (U.m (V:=fun _=>el u0_1 (gx7.toNat*2)) h rfl (Y.indexM (g:=TL.row) (l:=a0.Queue) Tryz.underlying63 sz68 rfl rfl (fun w' hw=>(hA0_1.up.clsP hK hw rfl))) (fun x87 ex87 h=>(U.take rfl (U.y rfl (Y.fieldE fd68_0 rfl) ?_))))))))))))))
   refine U.take rfl (U.y rfl (Y.loadE (u:=.int .i64 x87.Tx) ag3 rfl (fun w' hw=>(hA0_1.up.clsP hK hw rfl)) (idx_map ex87) rfl) (U.take rfl ?_))
   obtain ⟨x88,e89,h⟩:=bind1S h
   refine U.y rfl (Y.does en40 rfl (fun w' hw=>(W40 a0.Held x87.Tx u0_0 w' _ e89 (hA0_0.up.clsP hK hw rfl)).mono (fun _ _ h=>h.1))) (U.take rfl (U.ite h rfl (Y.gtr rfl rfl) (fun c90 h=>?_) (fun c90 h=>?_)))
   ·exact U.r 1 rfl (U.nil (E.thenN (W.condT rfl (W.skip (E.thenN (W.block (W.region (L.r 1 rfl (L.m (V:=fun x91=>.int .i64 x91) h rfl (Y.addM rfl rfl) (fun x91 ex91 h=>(L.r 1 rfl (L.nil (E.blockN (E.aJ ⟨x91,rfl,rfl,by rw [hg1];exact h⟩ hI))))))))))))))
   exact U.r 1 rfl (U.nil (E.thenN (W.condF rfl (W.exit (E.thenX (E.KLX (E.blockX (E.jJ ⟨gx7,rfl,rfl,h⟩ hI))))))))
  exact U.r 12 rfl (U.nil (E.thenN (W.condF rfl (W.exit (E.thenX (E.KLX (E.blockX (E.jJ ⟨gx7,rfl,rfl,h⟩ hI))))))))
 rintro _ _ ⟨gx4,rfl,rfl,h⟩
 rw [M41K6] at h
 refine W.seqJ (fun gs D=>∃ gv5 gl6,gs=[(2,pt b1 0),(4,pt b3 0)]∧D=Cls w [] [.obj b3 [.int .i64 0,.slice none 0 0,.slice none 0 0] 65,.obj b1 [.int .i64 a0.Item,u0_0,gv5] 65,.sl gv5 68 2 (gl6.map TL.row),.os []]∧M41K7 a0 gl6=some r) ?_ ?_
 ·refine W.drawn2 (k:=9) (stC [[6,8],[8]] [Cls w [] [.obj b3 [.int .i64 0,.slice none 0 0,.slice none 0 0] 65,.obj b2 [.int .i64 a1.Tx,.int .i64 a1.Mode] 68,.obj b1 [.int .i64 a0.Item,u0_0,u0_1] 65,.os []],Cls w [] [.obj b3 [.int .i64 0,.slice none 0 0,.slice none 0 0] 65,.obj b2 [.int .i64 a1.Tx,.int .i64 a1.Mode] 68,.obj b1 [.int .i64 a0.Item,u0_0,u0_1] 65,.os []]] (Cls w [] [.obj b3 [.int .i64 0,.slice none 0 0,.slice none 0 0] 65,.obj b2 [.int .i64 a1.Tx,.int .i64 a1.Mode] 68,.os []])) rfl mixed (fun _ hw=>hw.drew) (Sc.now (by kernel_rfl) hI) (V2.zz [] (Zc.on' (Zc.on' (Zc.fin hI) (sI [0,1,3])) (sI [0,1,3])) (fun hz70=>(V2.q 0 [] hz70 rfl rfl (Y.fieldP fd65_2 rfl) (V2.zz [8] (Zc.on' (Zc.at1 hI) hI) (fun hz71=>(V2.q 1 [8] hz71 rfl rfl (Y.loadP (i:=2) ag63 rfl rfl rfl) (V2.r [3] (by kernel_rfl) rfl (V2.q 4 [] hz70 rfl rfl (Y.loadPW (i:=1) ag68 sz68 rfl rfl rfl) (V2.eff2 (i1:=2) (i2:=5) (by kernel_rfl) rfl rfl ?_ ?_)))))))))
  ·obtain ⟨l72,e74,h⟩:=bind1S h
   refine L.does rfl en54 rfl (fun w' hw=>W54 a0.Queue u0_1 w' _ e74 (hA0_1.up.clsP hK hw rfl)) ?_
   rintro v73 _ ⟨_,rfl,rfl⟩
   refine L.nil (E.toV2 (stC [[6,8],[8]] [Cls w [] [.sl v73 68 2 (l72.map TL.row),.obj b3 [.int .i64 0,.slice none 0 0,.slice none 0 0] 65,.obj b2 [.int .i64 a1.Tx,.int .i64 a1.Mode] 68,.obj b1 [.int .i64 a0.Item,u0_0,u0_1] 65,.os []],Cls w [] [.obj b3 [.int .i64 0,.slice none 0 0,.slice none 0 0] 65,.obj b2 [.int .i64 a1.Tx,.int .i64 a1.Mode] 68,.obj b1 [.int .i64 a0.Item,u0_0,u0_1] 65,.os []]] (Cls w [] [.obj b3 [.int .i64 0,.slice none 0 0,.slice none 0 0] 65,.obj b2 [.int .i64 a1.Tx,.int .i64 a1.Mode] 68,.os []])) 2 (by kernel_rfl) (Sc.stay (sI [1,2,3,4]) (Sc.stay hI (Sc.stayD hI))) (Sc.now (by kernel_rfl) hI) (V2.eff (i:=5) (by kernel_rfl) rfl (L.litAgg rfl Tryz.underlying63 eL68 rfl rfl rfl ?_)))
   intro b75
   refine L.nil (E.toV2 (stC [[6,8],[8]] [Cls w [] [.sl (sv b75 1) 68 2 (([a1]).map TL.row),.sl v73 68 2 (l72.map TL.row),.obj b3 [.int .i64 0,.slice none 0 0,.slice none 0 0] 65,.obj b2 [.int .i64 a1.Tx,.int .i64 a1.Mode] 68,.obj b1 [.int .i64 a0.Item,u0_0,u0_1] 65,.os []],Cls w [] [.sl (sv b75 1) 68 2 (([a1]).map TL.row),.obj b3 [.int .i64 0,.slice none 0 0,.slice none 0 0] 65,.obj b2 [.int .i64 a1.Tx,.int .i64 a1.Mode] 68,.obj b1 [.int .i64 a0.Item,u0_0,u0_1] 65,.os []]] (Cls w [] [.sl (sv b75 1) 68 2 (([a1]).map TL.row),.obj b3 [.int .i64 0,.slice none 0 0,.slice none 0 0] 65,.obj b2 [.int .i64 a1.Tx,.int .i64 a1.Mode] 68,.os []])) 5 (by kernel_rfl) (Sc.stay (sI [1,2,3,4,5]) (Sc.stay (sI [1,2,3,4]) (Sc.stayD (sI [1,2,3])))) (Sc.now (by kernel_rfl) hI) (V2.eff (i:=6) (by kernel_rfl) rfl (L.insRD (i:=1) (j:=0) (l:=l72) (x1:=a1) (a:=gx4) h wInsR36 (fun _=>rfl) rfl en36 rfl rfl rfl rfl rfl (by decide) ?_)))
   intro v77 l76 el76 h
   exact L.nil (E.toV2 (stC [[8]] [Cls w [] [.sl (sv b75 1) 68 2 (([a1]).map TL.row),.sl v77 68 2 (l76.map TL.row),.obj b3 [.int .i64 0,.slice none 0 0,.slice none 0 0] 65,.obj b2 [.int .i64 a1.Tx,.int .i64 a1.Mode] 68,.obj b1 [.int .i64 a0.Item,u0_0,u0_1] 65,.os []]] (Cls w [] [.sl (sv b75 1) 68 2 (([a1]).map TL.row),.sl v77 68 2 (l76.map TL.row),.obj b3 [.int .i64 0,.slice none 0 0,.slice none 0 0] 65,.obj b2 [.int .i64 a1.Tx,.int .i64 a1.Mode] 68,.os []])) 6 (by kernel_rfl) (Sc.past rfl (Sc.stay (sI [0,2,3,4,5]) (Sc.stayD (sI [0,2,3,4])))) (Sc.now (by kernel_rfl) hI) (V2.zz [] (Zc.on' (Zc.fin hI) (sI [0,1,2,3,5])) (fun hz78=>(V2.q 7 [] hz78 rfl rfl (Y.fieldP fd65_2 rfl) (V2.eff (i:=8) (by kernel_rfl) rfl (L.storeV (i:=4) sz63 rfl rfl (fun _ hw=>(As.at_ (hw.get (i:=1) rfl)).one) rfl nb (L.nil (E.toV2 (stC [] [] (Cls w [] [.sl (sv b75 1) 68 2 (([a1]).map TL.row),.sl v77 68 2 (l76.map TL.row),.obj b3 [.int .i64 0,.slice none 0 0,.slice none 0 0] 65,.obj b2 [.int .i64 a1.Tx,.int .i64 a1.Mode] 68,.os []])) 8 (by kernel_rfl) (Sc.past rfl (Sc.stayD hI)) (Sc.atD (sI [0,1,2,3,5])) (V2.done (by kernel_rfl) (E.jJ ⟨v77,l76,rfl,rfl,h⟩ (sI [2,4,1,5])))))))))))
  refine L.litAgg rfl Tryz.underlying63 eL68 rfl rfl rfl ?_
  intro b79
  refine L.nil (E.toV2 (stC [[6,8],[8]] [Cls w [] [.sl (sv b79 1) 68 2 (([a1]).map TL.row),.obj b3 [.int .i64 0,.slice none 0 0,.slice none 0 0] 65,.obj b2 [.int .i64 a1.Tx,.int .i64 a1.Mode] 68,.obj b1 [.int .i64 a0.Item,u0_0,u0_1] 65,.os []],Cls w [] [.sl (sv b79 1) 68 2 (([a1]).map TL.row),.obj b3 [.int .i64 0,.slice none 0 0,.slice none 0 0] 65,.obj b2 [.int .i64 a1.Tx,.int .i64 a1.Mode] 68,.obj b1 [.int .i64 a0.Item,u0_0,u0_1] 65,.os []]] (Cls w [] [.sl (sv b79 1) 68 2 (([a1]).map TL.row),.obj b3 [.int .i64 0,.slice none 0 0,.slice none 0 0] 65,.obj b2 [.int .i64 a1.Tx,.int .i64 a1.Mode] 68,.os []])) 5 (by kernel_rfl) (Sc.stay (sI [1,2,3,4]) (Sc.stay (sI [1,2,3,4]) (Sc.stayD (sI [1,2,3])))) (Sc.now (by kernel_rfl) hI) (V2.eff (i:=2) (by kernel_rfl) rfl ?_))
  obtain ⟨l80,e82,h⟩:=bind1S h
  refine L.does rfl en54 rfl (fun w' hw=>W54 a0.Queue u0_1 w' _ e82 (hA0_1.up.clsP hK hw rfl)) ?_
  rintro v81 _ ⟨_,rfl,rfl⟩
  refine L.nil (E.toV2 (stC [[6,8],[8]] [Cls w [] [.sl v81 68 2 (l80.map TL.row),.sl (sv b79 1) 68 2 (([a1]).map TL.row),.obj b3 [.int .i64 0,.slice none 0 0,.slice none 0 0] 65,.obj b2 [.int .i64 a1.Tx,.int .i64 a1.Mode] 68,.obj b1 [.int .i64 a0.Item,u0_0,u0_1] 65,.os []],Cls w [] [.sl (sv b79 1) 68 2 (([a1]).map TL.row),.obj b3 [.int .i64 0,.slice none 0 0,.slice none 0 0] 65,.obj b2 [.int .i64 a1.Tx,.int .i64 a1.Mode] 68,.obj b1 [.int .i64 a0.Item,u0_0,u0_1] 65,.os []]] (Cls w [] [.sl (sv b79 1) 68 2 (([a1]).map TL.row),.obj b3 [.int .i64 0,.slice none 0 0,.slice none 0 0] 65,.obj b2 [.int .i64 a1.Tx,.int .i64 a1.Mode] 68,.os []])) 2 (by kernel_rfl) (Sc.stay (sI [1,2,3,4,5]) (Sc.stay hI (Sc.stayD hI))) (Sc.now (by kernel_rfl) hI) (V2.eff (i:=6) (by kernel_rfl) rfl (L.insRD (i:=0) (j:=1) (l:=l80) (x1:=a1) (a:=gx4) h wInsR36 (fun _=>rfl) rfl en36 rfl rfl rfl rfl rfl (by decide) ?_)))
  intro v84 l83 el83 h
  exact L.nil (E.toV2 (stC [[8]] [Cls w [] [.sl v84 68 2 (l83.map TL.row),.sl (sv b79 1) 68 2 (([a1]).map TL.row),.obj b3 [.int .i64 0,.slice none 0 0,.slice none 0 0] 65,.obj b2 [.int .i64 a1.Tx,.int .i64 a1.Mode] 68,.obj b1 [.int .i64 a0.Item,u0_0,u0_1] 65,.os []]] (Cls w [] [.sl v84 68 2 (l83.map TL.row),.sl (sv b79 1) 68 2 (([a1]).map TL.row),.obj b3 [.int .i64 0,.slice none 0 0,.slice none 0 0] 65,.obj b2 [.int .i64 a1.Tx,.int .i64 a1.Mode] 68,.os []])) 6 (by kernel_rfl) (Sc.past rfl (Sc.stay (sI [1,2,3,4,5]) (Sc.stayD (sI [1,2,3,4])))) (Sc.now (by kernel_rfl) hI) (V2.zz [] (Zc.on' (Zc.fin hI) (sI [0,1,2,3,5])) (fun hz85=>(V2.q 7 [] hz85 rfl rfl (Y.fieldP fd65_2 rfl) (V2.eff (i:=8) (by kernel_rfl) rfl (L.storeV (i:=4) sz63 rfl rfl (fun _ hw=>(As.at_ (hw.get (i:=0) rfl)).one) rfl nb (L.nil (E.toV2 (stC [] [] (Cls w [] [.sl v84 68 2 (l83.map TL.row),.sl (sv b79 1) 68 2 (([a1]).map TL.row),.obj b3 [.int .i64 0,.slice none 0 0,.slice none 0 0] 65,.obj b2 [.int .i64 a1.Tx,.int .i64 a1.Mode] 68,.os []])) 8 (by kernel_rfl) (Sc.past rfl (Sc.stayD hI)) (Sc.atD (sI [0,1,2,3,5])) (V2.done (by kernel_rfl) (E.jJ ⟨v84,l83,rfl,rfl,h⟩ (sI [2,4,0,5])))))))))))
 rintro _ _ ⟨gv5,gl6,rfl,rfl,h⟩
 rw [M41K7] at h
 refine sr (L.y rfl (Y.loadPW (i:=1) ag65 sz65 rfl rfl rfl) (L.storeC (i:=0) sz65 rfl rfl rfl rfl (fun w hw=>(all1 rfl (all1 (hA0_0.up.clsP hK hw rfl).one (all1 (As.at_ (hw.get (i:=2) rfl)).one all0)))) rfl nb (L.r 1 rfl (ln (W.ret (E.frz (i:=2) rfl rfl rfl ?_))))))
 intro c52 mo53 hf54
 refine E.retR2 rfl (Rv.cellW (i:=0) ag65 sz65 rfl rfl rfl) (Rv.tmp rfl) (fun w1 hw=>?_)
 cases h
 exact ⟨_,_,rfl,⟨c52,rfl,u0_0,gv5,rfl,hA0_0.up,(hf54 K)⟩,hw.s [2]⟩
set_option maxRecDepth 100000 in
set_option maxHeartbeats 8000000 in
theorem W18 (a0:(List TI)) (a1:Int) (a2:Int) (a3:Int) (u0:Value) (q0:Nat→List Value) (K:World→Prop) (w:World) (hK:StbF K w []) (r:((List TI)×Bool×Int)) (h:M18 a0 a1 a2 a3=some r) (hA0:Fz K [] u0 3 (zr TI.rowv q0 a0)) (hD0:FzA K [] (zs TI.sds q0 a0)):Does Tryz.prog 18 [u0,.int .i64 a1,.int .i64 a2,.int .i64 a3] w fun u m=>∃ c,m=[.os c]∧∃ v0 q0,u=.tuple #[v0,.bool r.2.1,.int .i64 r.2.2]∧Fz K c v0 3 (zr TI.rowv q0 r.1)∧FzA K c (zs TI.sds q0 r.1):=by
 rw [M18] at h
 refine body (n:=81) Tryz.func18 rfl rfl rfl (Cls.reflF w) (sr (L.r 3 rfl (ln (W.seqJ (fun gs D=>gs=[(0,u0),(1,.int .i64 a1),(2,.int .i64 a2),(3,.int .i64 a3)]∧D=Cls w [] [.os []]∧M18K1 a0 a2 a1 a3=some r) ?_ ?_))))
 ·refine sr (L.r 1 rfl (L.y rfl (Y.lenMZ (row:=TI.rowv) (vs:=q0) (l:=a0) Tryz.underlying34 rfl (fun w' hw=>(hA0.up.clsP hK hw rfl))) (L.r 1 rfl (ln (W.block (W.loopJ (fun m gs D=>∃ gx35,gs=[(0,u0),(1,.int .i64 a1),(2,.int .i64 a2),(3,.int .i64 a3),(19,u0),(20,.int .i64 (a0.length:Int)),(21,.int .i64 gx35)]∧D=Cls w [] [.os []]∧M18L2 a0 a1 a2 a3 m gx35=some r) ⟨0,rfl,rfl,h⟩ ⟨rfl,rfl,rfl,rfl,rfl,rfl,rfl,trivial⟩ hI ?_))))))
  rintro m _ _ ⟨gx35,rfl,rfl,h⟩
  rcases m with _ | m
  ·rw [M18L2] at h;cases h
  rw [M18L2] at h
  generalize hg2:M18L2 a0 a1 a2 a3 m=go2 at h
  rw [M18L2B] at h
  refine sr (L.ite h rfl (Y.lss rfl rfl) (fun c64 h=>?_) (fun c64 h=>?_))
  ·refine ln (W.seq (W.condT rfl (W.skip (E.thenN (W.seq (W.block (sr (L.m (V:=fun _=>el u0 (gx35.toNat*3)) h rfl (Y.indexMZ (row:=TI.rowv) (vs:=q0) (l:=a0) Tryz.underlying34 sz65 rfl rfl (fun w' hw=>(hA0.up.clsP hK hw rfl))) (fun x65 ex65 h=>(L.y rfl (Y.loadEN (r:=[.int .i64 x65.Item,gv (q0 gx35.toNat) 0,gv (q0 gx35.toNat) 1]) ag65 sz65 rfl (fun w' hw=>(hA0.up.clsP hK hw rfl)) (zr_idx (vs:=q0) ex65) rfl) (L.alloc rfl ze65 ?_)))))))))))
   intro b66
   refine L.storeC (i:=0) sz65 rfl rfl rfl rfl (fun w hw=>(all1 rfl (all1 (((FzA.at (sds:=TI.sds) (vs:=q0) (j:=0) (nl:=2) hD0 (fun _ _=>rfl) ex65 rfl).up).clsP hK hw rfl).one (all1 (((FzA.at (sds:=TI.sds) (vs:=q0) (j:=1) (nl:=2) hD0 (fun _ _=>rfl) ex65 rfl).up).clsP hK hw rfl).one all0)))) rfl nb (nsr (L.y rfl (Y.fieldP fd65_2 rfl) (L.y rfl (Y.loadP (i:=0) ag63 rfl rfl rfl) (L.r 1 rfl ?_))))
   obtain ⟨x67,e68,h⟩:=bind1S h
   refine L.y rfl (Y.does en40 rfl (fun w' hw=>(W40 x65.Queue a1 (gv (q0 gx35.toNat) 1) w' _ e68 (((FzA.at (sds:=TI.sds) (vs:=q0) (j:=1) (nl:=2) hD0 (fun _ _=>rfl) ex65 rfl).up).clsP hK hw rfl)).mono (fun _ _ h=>h.1))) (L.ite h rfl (Y.gtr rfl rfl) (fun c69 h=>?_) (fun c69 h=>?_))
   ·refine ln (W.condT rfl (sr (L.r 3 rfl (ln (W.ret (E.blockR (E.thenR (E.KLR (E.blockR (E.KSR ?_))))))))))
    refine E.ret3 rfl rfl rfl rfl (fun w1 hw=>?_)
    cases h
    exact ⟨_,_,rfl,⟨[],rfl,(.slice none 0 0),(fun _=>[]),rfl,Fz.nil,FzA.nil⟩,hw.s [1]⟩
   exact ln (W.condF rfl (W.skip (E.blockN (E.thenN (W.region (L.m (V:=fun x70=>.int .i64 x70) h rfl (Y.addM rfl rfl) (fun x70 ex70 h=>(L.r 1 rfl (L.nil (E.aJ ⟨x70,rfl,rfl,by rw [hg2];exact h⟩ (sI [1])))))))))))
  exact ln (W.seq (W.condF rfl (W.exit (E.thenX (E.KLX (E.blockX (E.jJ ⟨rfl,rfl,h⟩ hI)))))))
 rintro _ _ ⟨rfl,rfl,h⟩
 rw [M18K1] at h
 refine sr (L.r 2 rfl (L.y rfl (Y.build (cells:=#[.int .i64 a1,.int .i64 a3]) rfl (by kernel_rfl)) (L.alloc rfl ze68 ?_)))
 intro b1
 refine L.store (i:=0) (vs:=[.int .i64 a1,.int .i64 a3]) sz68 rfl rfl rfl rfl (by simp [Value.oneCell',Value.cells,st,pt,el]) rfl nb (nsr (L.r 1 rfl (nsr (L.r 2 rfl (ln (W.seqJ (fun gs D=>∃ gc1 gv2 gl3 gq4,∃ gu6:Unit,∃ gb7 gb8,gs=[(2,.int .i64 a2),(13,pt b1 0),(14,gv2),(15,.bool gb7),(16,.bool gb8)]∧D=Cls w [] [.obj b1 [.int .i64 a1,.int .i64 a3] 68,.sl gv2 65 3 (zr TI.rowv gq4 gl3),.os gc1]∧FzA K gc1 (zs TI.sds gq4 gl3)∧M18K2 a2 a1 a3 gl3 gb7 gb8=some r) ?_ ?_))))))
 ·refine sr (L.r 1 rfl (L.y rfl (Y.lenMZ (row:=TI.rowv) (vs:=q0) (l:=a0) Tryz.underlying34 rfl (fun w' hw=>(hA0.up.clsP hK hw rfl))) (L.r 1 rfl (ln (W.block (W.nilSl 65 3 (W.loopJ (fun m gs D=>∃ gc9 gv10 gl11 gq12,∃ gu14:Unit,∃ gb15 gb16 gx17,gs=[(2,.int .i64 a2),(13,pt b1 0),(14,gv10),(15,.bool gb15),(16,.bool gb16),(34,u0),(35,.int .i64 (a0.length:Int)),(36,.int .i64 gx17)]∧D=Cls w [] [.obj b1 [.int .i64 a1,.int .i64 a3] 68,.sl gv10 65 3 (zr TI.rowv gq12 gl11),.os gc9]∧FzA K gc9 (zs TI.sds gq12 gl11)∧M18L1 a0 a2 a1 a3 m gl11 gb15 gb16 gx17=some r) ⟨[],.slice none 0 0,[],(fun _=>[]),(),false,false,0,rfl,rfl,FzA.nil,h⟩ ⟨rfl,rfl,rfl,rfl,rfl,rfl,rfl,rfl,trivial⟩ (sI [1,0,2]) ?_)))))))
  rintro m _ _ ⟨gc9,gv10,gl11,gq12,gu14,gb15,gb16,gx17,rfl,rfl,hG13,h⟩
  rcases m with _ | m
  ·rw [M18L1] at h;cases h
  rw [M18L1] at h
  generalize hg1:M18L1 a0 a2 a1 a3 m=go1 at h
  rw [M18L1B] at h
  refine sr (L.ite h rfl (Y.lss rfl rfl) (fun c19 h=>?_) (fun c19 h=>?_))
  ·refine ln (W.seq (W.condT rfl (W.skip (E.thenN (W.seq (W.block (sr (L.m (V:=fun _=>el u0 (gx17.toNat*3)) h rfl (Y.indexMZ (row:=TI.rowv) (vs:=q0) (l:=a0) Tryz.underlying34 sz65 rfl rfl (fun w' hw=>(hA0.up.clsP hK hw rfl))) (fun x20 ex20 h=>(L.y rfl (Y.loadEN (r:=[.int .i64 x20.Item,gv (q0 gx17.toNat) 0,gv (q0 gx17.toNat) 1]) ag65 sz65 rfl (fun w' hw=>(hA0.up.clsP hK hw rfl)) (zr_idx (vs:=q0) ex20) rfl) (L.alloc rfl ze65 ?_)))))))))))
   intro b21
   refine L.storeC (i:=0) sz65 rfl rfl rfl rfl (fun w hw=>(all1 rfl (all1 (((FzA.at (sds:=TI.sds) (vs:=q0) (j:=0) (nl:=2) hD0 (fun _ _=>rfl) ex20 rfl).up).clsP hK hw rfl).one (all1 (((FzA.at (sds:=TI.sds) (vs:=q0) (j:=1) (nl:=2) hD0 (fun _ _=>rfl) ex20 rfl).up).clsP hK hw rfl).one all0)))) rfl nb (ln (W.seqJ (fun gs D=>∃ gc18 gv19 gl20 gq21,∃ gu23:Unit,∃ gb24 gb25 gx26 gv27 gl28,∃ gu30:Unit,∃ gv31 gl32,∃ gu34:Unit,gs=[(2,.int .i64 a2),(13,pt b1 0),(14,gv19),(15,.bool gb24),(16,.bool gb25),(18,pt b21 0),(34,u0),(35,.int .i64 (a0.length:Int)),(36,.int .i64 gx17)]∧D=Cls w [] [.obj b21 [.int .i64 gx26,gv27,gv31] 65,.obj b1 [.int .i64 a1,.int .i64 a3] 68,.sl gv19 65 3 (zr TI.rowv gq21 gl20),.os gc18]∧FzA K gc18 (zs TI.sds gq21 gl20)∧Fz K gc18 gv27 2 (gl28.map TL.row)∧Fz K gc18 gv31 2 (gl32.map TL.row)∧M18K3 gx17 go1 gl20 gb24 gb25 gx26 gl28 gl32=some r) ?_ ?_))
   ·refine sr (L.iteB h rfl (Y.move rfl) (fun c38 h=>?_) (fun c38 h=>?_))
    ·exact L.y rfl (Y.not rfl) (L.r 6 rfl (ln (W.condF rfl (W.skip (E.jJ ⟨gc9,gv10,gl11,gq12,(),gb15,gb16,x20.Item,gv (q0 gx17.toNat) 0,x20.Held,(),gv (q0 gx17.toNat) 1,x20.Queue,(),rfl,rfl,hG13,(FzA.at (sds:=TI.sds) (vs:=q0) (j:=0) (nl:=2) hD0 (fun _ _=>rfl) ex20 rfl).up,(FzA.at (sds:=TI.sds) (vs:=q0) (j:=1) (nl:=2) hD0 (fun _ _=>rfl) ex20 rfl).up,h⟩ hI)))))
    refine L.y rfl (Y.not rfl) (L.r 1 rfl (L.take rfl (L.y rfl (Y.fieldP fd65_0 rfl) (L.take rfl (L.y rfl (Y.loadP (i:=0) ag3 rfl rfl rfl) (L.r 1 rfl (L.take rfl (L.ite h rfl (Y.geq rfl rfl) (fun c39 h=>?_) (fun c39 h=>?_)))))))))
    ·refine L.r 1 rfl (ln (W.condT rfl (sr (L.r 1 rfl (nsr (L.y rfl (Y.fieldP fd65_0 rfl) (L.y rfl (Y.loadP (i:=0) ag3 rfl rfl rfl) (L.r 1 rfl ?_))))))))
     refine L.ite h rfl (Y.gtr rfl rfl) (fun c40 h=>?_) (fun c40 h=>?_)
     ·refine ln (W.condT rfl (sr (L.r 2 rfl (L.y rfl (Y.loadPW (i:=1) ag68 sz68 rfl rfl rfl) (L.litAgg rfl Tryz.underlying63 eL68 rfl rfl rfl ?_)))))
      intro b41
      refine L.y rfl (Y.buildC (cells:=#[.int .i64 a2,(sv b41 1),.slice none 0 0]) rfl (fun w hw=>by rcases ((As.at_ (hw.get (i:=0) rfl))).shape with ⟨h0,_⟩ | ⟨_,_,h0,_,_⟩ <;> simp only [h0] <;> kernel_rfl)) (L.frz (i:=0) rfl rfl rfl ?_)
      intro c43 mo44 hf45
      refine L.litAgg rfl Tryz.underlying34 eL65 rfl rfl rfl ?_
      intro b46
      have hz47:FzA K c43 (zs TI.sds (fun _=>[(sv b41 1),.slice none 0 0]) [(⟨a2,[(⟨a1,a3⟩:TL)],[]⟩:TI)]):=FzA.app (FzA.cons (hf45 K) (FzA.cons Fz.nil FzA.nil)) FzA.nil
      refine L.to (D:=Cls w [] [.sl (sv b46 1) 65 3 (zr TI.rowv (fun _=>[(sv b41 1),.slice none 0 0]) ([(⟨a2,[(⟨a1,a3⟩:TL)],[]⟩:TI)])),.obj b21 [.int .i64 x20.Item,gv (q0 gx17.toNat) 0,gv (q0 gx17.toNat) 1] 65,.obj b1 [.int .i64 a1,.int .i64 a3] 68,.sl gv10 65 3 (zr TI.rowv gq12 gl11),.os c43]) hI (L.appHzP (i:=3) (row:=TI.rowv) (sds:=TI.sds) (vs:=gq12) (vs2:=(fun _=>[(sv b41 1),.slice none 0 0])) (l:=gl11) (l2:=[(⟨a2,[(⟨a1,a3⟩:TL)],[]⟩:TI)]) h rfl Tryz.underlying34 eL65 rfl rfl rfl rfl (fun w hw=>As.at_ (hw.get (i:=0) rfl)) plz_TLockItem hK rfl (hG13.mo mo44) hz47 ?_)
      intro v49 q50 l48 el48 h hz51
      exact L.r 1 rfl (nr (L.r 1 rfl (L.nil (E.jJ ⟨c43,v49,l48,q50,(),true,true,x20.Item,gv (q0 gx17.toNat) 0,x20.Held,(),gv (q0 gx17.toNat) 1,x20.Queue,(),rfl,rfl,hz51,(FzA.at (sds:=TI.sds) (vs:=q0) (j:=0) (nl:=2) hD0 (fun _ _=>rfl) ex20 rfl).up,(FzA.at (sds:=TI.sds) (vs:=q0) (j:=1) (nl:=2) hD0 (fun _ _=>rfl) ex20 rfl).up,h⟩ (sI [2,3,0,4])))))
     refine ln (W.condF rfl (W.region (L.y rfl (Y.loadPW (i:=0) ag65 sz65 rfl rfl rfl) (L.y rfl (Y.loadPW (i:=1) ag68 sz68 rfl rfl rfl) ?_))))
     obtain ⟨x52,b57,e58,h⟩:=bind2S h
     refine L.doesFP rfl en41 rfl rfl hK (fun w' hw hs=>W41 x20 (⟨a1,a3⟩:TL) (gv (q0 gx17.toNat) 0) (gv (q0 gx17.toNat) 1) _ w' hs.f _ e58 ((FzA.at (sds:=TI.sds) (vs:=q0) (j:=0) (nl:=2) hD0 (fun _ _=>rfl) ex20 rfl).up).tok ((FzA.at (sds:=TI.sds) (vs:=q0) (j:=1) (nl:=2) hD0 (fun _ _=>rfl) ex20 rfl).up).tok) ?_
     rintro _ c59 c60 mo61 mn62 ma63 ⟨v53,v55,rfl,f54,f56⟩
     exact L.r 3 rfl (L.storeC (i:=0) sz65 rfl rfl rfl rfl (fun w hw=>(all1 rfl (all1 ((mn62 f54).clsP hK hw rfl).one (all1 ((mn62 f56).clsP hK hw rfl).one all0)))) rfl nb (L.r 1 rfl (L.nil (E.jJ ⟨c60,gv10,gl11,gq12,(),true,b57,x52.Item,v53,x52.Held,(),v55,x52.Queue,(),rfl,rfl,(hG13.mo mo61),(mn62 f54),(mn62 f56),h⟩ hI))))
    exact L.r 1 rfl (ln (W.condF rfl (W.skip (E.jJ ⟨gc9,gv10,gl11,gq12,(),gb15,gb16,x20.Item,gv (q0 gx17.toNat) 0,x20.Held,(),gv (q0 gx17.toNat) 1,x20.Queue,(),rfl,rfl,hG13,(FzA.at (sds:=TI.sds) (vs:=q0) (j:=0) (nl:=2) hD0 (fun _ _=>rfl) ex20 rfl).up,(FzA.at (sds:=TI.sds) (vs:=q0) (j:=1) (nl:=2) hD0 (fun _ _=>rfl) ex20 rfl).up,h⟩ hI))))
   rintro _ _ ⟨gc18,gv19,gl20,gq21,gu23,gb24,gb25,gx26,gv27,gl28,gu30,gv31,gl32,gu34,rfl,rfl,hG22,hG29,hG33,h⟩
   rw [M18K3] at h
   rcases gb24 with _ | _
   ·replace h:=iteF h
    refine W.region (L.r 1 rfl (L.y rfl (Y.loadPW (i:=0) ag65 sz65 rfl rfl rfl) (L.litAgg rfl Tryz.underlying34 eL65 rfl rfl rfl ?_)))
    intro b23
    have hz24:FzA K gc18 (zs TI.sds (fun _=>[gv27,gv31]) [(⟨gx26,gl28,gl32⟩:TI)]):=FzA.app (FzA.cons hG29 (FzA.cons hG33 FzA.nil)) FzA.nil
    refine L.to (D:=Cls w [] [.sl (sv b23 1) 65 3 (zr TI.rowv (fun _=>[gv27,gv31]) ([(⟨gx26,gl28,gl32⟩:TI)])),.obj b21 [.int .i64 gx26,gv27,gv31] 65,.obj b1 [.int .i64 a1,.int .i64 a3] 68,.sl gv19 65 3 (zr TI.rowv gq21 gl20),.os gc18]) hI (L.appHzP (i:=3) (row:=TI.rowv) (sds:=TI.sds) (vs:=gq21) (vs2:=(fun _=>[gv27,gv31])) (l:=gl20) (l2:=[(⟨gx26,gl28,gl32⟩:TI)]) h rfl Tryz.underlying34 eL65 rfl rfl rfl rfl (fun w hw=>As.at_ (hw.get (i:=0) rfl)) plz_TLockItem hK rfl hG22 hz24 ?_)
    intro v26 q27 l25 el25 h hz28
    exact L.r 1 rfl (L.nil (E.blockN (E.thenN (W.region (L.m (V:=fun x29=>.int .i64 x29) h rfl (Y.addM rfl rfl) (fun x29 ex29 h=>(L.r 1 rfl (L.nil (E.aJ ⟨gc18,v26,l25,q27,(),false,gb25,x29,rfl,rfl,hz28,by rw [hg1];exact h⟩ (sI [3,0,4]))))))))))
   replace h:=iteT h
   refine W.region (L.r 1 rfl (L.y rfl (Y.loadPW (i:=0) ag65 sz65 rfl rfl rfl) (L.litAgg rfl Tryz.underlying34 eL65 rfl rfl rfl ?_)))
   intro b31
   have hz32:FzA K gc18 (zs TI.sds (fun _=>[gv27,gv31]) [(⟨gx26,gl28,gl32⟩:TI)]):=FzA.app (FzA.cons hG29 (FzA.cons hG33 FzA.nil)) FzA.nil
   refine L.to (D:=Cls w [] [.sl (sv b31 1) 65 3 (zr TI.rowv (fun _=>[gv27,gv31]) ([(⟨gx26,gl28,gl32⟩:TI)])),.obj b21 [.int .i64 gx26,gv27,gv31] 65,.obj b1 [.int .i64 a1,.int .i64 a3] 68,.sl gv19 65 3 (zr TI.rowv gq21 gl20),.os gc18]) hI (L.appHzP (i:=3) (row:=TI.rowv) (sds:=TI.sds) (vs:=gq21) (vs2:=(fun _=>[gv27,gv31])) (l:=gl20) (l2:=[(⟨gx26,gl28,gl32⟩:TI)]) h rfl Tryz.underlying34 eL65 rfl rfl rfl rfl (fun w hw=>As.at_ (hw.get (i:=0) rfl)) plz_TLockItem hK rfl hG22 hz32 ?_)
   intro v34 q35 l33 el33 h hz36
   exact L.r 1 rfl (L.nil (E.blockN (E.thenN (W.region (L.m (V:=fun x37=>.int .i64 x37) h rfl (Y.addM rfl rfl) (fun x37 ex37 h=>(L.r 1 rfl (L.nil (E.aJ ⟨gc18,v34,l33,q35,(),true,gb25,x37,rfl,rfl,hz36,by rw [hg1];exact h⟩ (sI [3,0,4]))))))))))
  exact ln (W.seq (W.condF rfl (W.exit (E.thenX (E.KLX (E.blockX (E.jJ ⟨gc9,gv10,gl11,gq12,(),gb15,gb16,rfl,rfl,hG13,h⟩ hI)))))))
 rintro _ _ ⟨gc1,gv2,gl3,gq4,gu6,gb7,gb8,rfl,rfl,hG5,h⟩
 rw [M18K2] at h
 rcases gb7 with _ | _
 ·replace h:=iteF h
  refine W.seq (sr (L.r 1 rfl (L.y rfl (Y.not rfl) (ln (W.condT rfl (sr (L.r 2 rfl (L.y rfl (Y.loadPW (i:=0) ag68 sz68 rfl rfl rfl) (L.litAgg rfl Tryz.underlying63 eL68 rfl rfl rfl ?_)))))))))
  intro b2
  refine L.y rfl (Y.buildC (cells:=#[.int .i64 a2,(sv b2 1),.slice none 0 0]) rfl (fun w hw=>by rcases ((As.at_ (hw.get (i:=0) rfl))).shape with ⟨h0,_⟩ | ⟨_,_,h0,_,_⟩ <;> simp only [h0] <;> kernel_rfl)) (L.frz (i:=0) rfl rfl rfl ?_)
  intro c4 mo5 hf6
  refine L.litAgg rfl Tryz.underlying34 eL65 rfl rfl rfl ?_
  intro b7
  have hz8:FzA K c4 (zs TI.sds (fun _=>[(sv b2 1),.slice none 0 0]) [(⟨a2,[(⟨a1,a3⟩:TL)],[]⟩:TI)]):=FzA.app (FzA.cons (hf6 K) (FzA.cons Fz.nil FzA.nil)) FzA.nil
  refine L.to (D:=Cls w [] [.sl (sv b7 1) 65 3 (zr TI.rowv (fun _=>[(sv b2 1),.slice none 0 0]) ([(⟨a2,[(⟨a1,a3⟩:TL)],[]⟩:TI)])),.obj b1 [.int .i64 a1,.int .i64 a3] 68,.sl gv2 65 3 (zr TI.rowv gq4 gl3),.os c4]) hI (L.appHzP (i:=2) (row:=TI.rowv) (sds:=TI.sds) (vs:=gq4) (vs2:=(fun _=>[(sv b2 1),.slice none 0 0])) (l:=gl3) (l2:=[(⟨a2,[(⟨a1,a3⟩:TL)],[]⟩:TI)]) h rfl Tryz.underlying34 eL65 rfl rfl rfl rfl (fun w hw=>As.at_ (hw.get (i:=0) rfl)) plz_TLockItem hK rfl (hG5.mo mo5) hz8 ?_)
  intro v10 q11 l9 el9 h hz12
  refine L.r 3 rfl (ln (W.ret (E.thenR (E.frz (i:=0) rfl rfl rfl ?_))))
  intro c13 mo14 hf15
  refine E.ret3 rfl rfl rfl rfl (fun w1 hw=>?_)
  cases h
  exact ⟨_,_,rfl,⟨c13,rfl,v10,q11,rfl,(hf15 K),(hz12.mo mo14)⟩,hw.s [2]⟩
 replace h:=iteT h
 refine W.seq (sr (L.r 1 rfl (L.y rfl (Y.not rfl) (ln (W.condF rfl (W.skip (E.thenN (sr (L.r 5 rfl (L.nil ?_))))))))))
 refine E.thenN (W.ret (E.frz (i:=1) rfl rfl rfl ?_))
 intro c16 mo17 hf18
 refine E.ret3 rfl rfl rfl rfl (fun w1 hw=>?_)
 cases h
 exact ⟨_,_,rfl,⟨c16,rfl,gv2,gq4,rfl,(hf18 K),(hG5.mo mo17)⟩,hw.s [1]⟩
set_option maxRecDepth 100000 in
set_option maxHeartbeats 8000000 in
theorem W20 (a0:(List TI)) (u0:Value) (q0:Nat→List Value) (w:World) (r:(List TE)) (h:M20 a0=some r) (hA0:At w u0 3 (zr TI.rowv q0 a0)) (hD0:∀ d∈zs TI.sds q0 a0,At w d.v d.k d.rows):Does Tryz.prog 20 [u0] w fun u m=>∃ v0,u=v0∧m=[.sl v0 90 2 (r.map TE.row)]:=by
 rw [M20] at h
 refine body (n:=75) Tryz.func20 rfl rfl rfl (Cls.refl w) (sr (L.r 1 rfl (nsr (L.r 1 rfl (ln (W.seqJ (fun gs D=>∃ gv1 gl2,gs=[(3,gv1)]∧D=Cls w [] [.sl gv1 90 2 (gl2.map TE.row)]∧M20K1 gl2=some r) ?_ ?_))))))
 ·refine sr (L.r 1 rfl (ln (W.block (W.nilSl 90 2 (W.loopJ (fun m gs D=>∃ gv3 gl4 gx5,gs=[(0,u0),(3,gv3),(11,.int .i64 gx5)]∧D=Cls w [] [.sl gv3 90 2 (gl4.map TE.row)]∧M20L1 a0 m gl4 gx5=some r) ⟨.slice none 0 0,[],0,rfl,rfl,h⟩ ⟨rfl,rfl,rfl,trivial⟩ hI ?_)))))
  rintro m _ _ ⟨gv3,gl4,gx5,rfl,rfl,h⟩
  rcases m with _ | m
  ·rw [M20L1] at h;cases h
  rw [M20L1] at h
  generalize hg1:M20L1 a0 m=go1 at h
  rw [M20L1B] at h
  refine sr (L.ite h rfl (Y.lss rfl rfl) (fun c1 h=>?_) (fun c1 h=>?_))
  ·refine ln (W.seq (W.condT rfl (W.skip (E.thenN (W.seqJ (fun gs D=>∃ gv6 gl7,gs=[(0,u0),(3,gv6),(11,.int .i64 gx5)]∧D=Cls w [] [.sl gv6 90 2 (gl7.map TE.row)]∧M20K2 gx5 go1 gl7=some r) ?_ ?_)))))
   ·refine W.block (sr (L.r 1 rfl (L.alloc rfl ze3 ?_)))
    intro b3
    refine L.store (i:=0) (vs:=[.int .i64 gx5]) sz3 rfl rfl rfl rfl (by simp [Value.oneCell',Value.cells,st,pt,el]) rfl nb (nsr (L.r 1 rfl (ln (W.block (W.loopJ (fun m gs D=>∃ gv8 gl9 gx10,gs=[(0,u0),(3,gv8),(4,pt b3 0),(11,.int .i64 gx5),(14,.int .i64 gx10)]∧D=Cls w [] [.obj b3 [.int .i64 gx5] 3,.sl gv8 90 2 (gl9.map TE.row)]∧M20L2 a0 gx5 go1 m gl9 gx10=some r) ⟨gv3,gl4,0,rfl,rfl,h⟩ ⟨rfl,rfl,rfl,rfl,rfl,trivial⟩ hI ?_)))))
    rintro m _ _ ⟨gv8,gl9,gx10,rfl,rfl,h⟩
    rcases m with _ | m
    ·rw [M20L2] at h;cases h
    rw [M20L2] at h
    generalize hg2:M20L2 a0 gx5 go1 m=go2 at h
    rw [M20L2B] at h
    refine sr (L.ite h rfl (Y.lss rfl rfl) (fun c4 h=>?_) (fun c4 h=>?_))
    ·refine ln (W.seq (W.condT rfl (W.skip (E.thenN (W.seqJ (fun gs D=>∃ gv11 gl12,gs=[(0,u0),(3,gv11),(4,pt b3 0),(11,.int .i64 gx5),(14,.int .i64 gx10)]∧D=Cls w [] [.obj b3 [.int .i64 gx5] 3,.sl gv11 90 2 (gl12.map TE.row)]∧M20K3 gx10 go2 gl12=some r) ?_ ?_)))))
     ·refine W.block (sr (L.r 2 rfl (nsr (L.r 1 rfl (ln (W.seqJ (fun gs D=>∃ gb13,gs=[(0,u0),(3,gv8),(4,pt b3 0),(5,.int .i64 gx10),(6,.bool gb13),(11,.int .i64 gx5),(14,.int .i64 gx10)]∧D=Cls w [] [.obj b3 [.int .i64 gx5] 3,.sl gv8 90 2 (gl9.map TE.row)]∧M20K4 gl9 gx5 gx10 go2 gb13=some r) ?_ ?_))))))
      ·refine sr (L.r 1 rfl (L.y rfl (Y.lenMZ (row:=TI.rowv) (vs:=q0) (l:=a0) Tryz.underlying34 rfl (fun w' hw=>hA0.cls0 hw)) (L.r 1 rfl (ln (W.block (W.loopJ (fun m gs D=>∃ gb14 gx15,gs=[(0,u0),(3,gv8),(4,pt b3 0),(5,.int .i64 gx10),(6,.bool gb14),(11,.int .i64 gx5),(14,.int .i64 gx10),(17,u0),(18,.int .i64 (a0.length:Int)),(19,.int .i64 gx15)]∧D=Cls w [] [.obj b3 [.int .i64 gx5] 3,.sl gv8 90 2 (gl9.map TE.row)]∧M20L3 a0 gx5 gx10 gl9 go2 m gb14 gx15=some r) ⟨false,0,rfl,rfl,h⟩ ⟨rfl,rfl,rfl,rfl,rfl,rfl,rfl,rfl,rfl,rfl,trivial⟩ hI ?_))))))
       rintro m _ _ ⟨gb14,gx15,rfl,rfl,h⟩
       rcases m with _ | m
       ·rw [M20L3] at h;cases h
       rw [M20L3] at h
       generalize hg3:M20L3 a0 gx5 gx10 gl9 go2 m=go3 at h
       rw [M20L3B] at h
       refine sr (L.ite h rfl (Y.lss rfl rfl) (fun c9 h=>?_) (fun c9 h=>?_))
       ·refine ln (W.seq (W.condT rfl (W.skip (E.thenN (W.seq (W.block (sr (L.m (V:=fun _=>el u0 (gx15.toNat*3)) h rfl (Y.indexMZ (row:=TI.rowv) (vs:=q0) (l:=a0) Tryz.underlying34 sz65 rfl rfl (fun w' hw=>hA0.cls0 hw)) (fun x10 ex10 h=>(L.y rfl (Y.loadEN (r:=[.int .i64 x10.Item,gv (q0 gx15.toNat) 0,gv (q0 gx15.toNat) 1]) ag65 sz65 rfl (fun w' hw=>hA0.cls0 hw) (zr_idx (vs:=q0) ex10) rfl) (L.alloc rfl ze65 ?_)))))))))))
        intro b11
        refine L.storeC (i:=0) sz65 rfl rfl rfl rfl (fun w hw=>(all1 rfl (all1 ((zAt (sds:=TI.sds) (vs:=q0) (j:=0) (c:=2) hD0 (fun _ _=>rfl) ex10 rfl).cls0 hw).one (all1 ((zAt (sds:=TI.sds) (vs:=q0) (j:=1) (c:=2) hD0 (fun _ _=>rfl) ex10 rfl).cls0 hw).one all0)))) rfl nb (nsr (L.y rfl (Y.fieldP fd65_2 rfl) (L.y rfl (Y.loadP (i:=0) ag63 rfl rfl rfl) (L.y rfl (Y.func rfl) (L.callJ (fun v D=>∃ gx16,v=.int .i64 gx16∧D=Cls w [] [.obj b11 [.int .i64 x10.Item,gv (q0 gx15.toNat) 0,gv (q0 gx15.toNat) 1] 65,.obj b3 [.int .i64 gx5] 3,.sl gv8 90 2 (gl9.map TE.row)]∧M20K5 gx15 go3 gb14 gx5 gx10 x10 gx16=some r) rfl en47 rfl Tryz.func47 rfl rfl rfl ?_ ?_)))))
        ·refine sr (L.r 1 rfl (ln (W.seqJ (fun gs D=>gs=[]∧D=Cls w [] [.obj b11 [.int .i64 x10.Item,gv (q0 gx15.toNat) 0,gv (q0 gx15.toNat) 1] 65,.obj b3 [.int .i64 gx5] 3,.sl gv8 90 2 (gl9.map TE.row)]∧M20K9 gx15 go3 gb14 gx5 gx10 x10=some r) ?_ ?_)))
         ·refine sr (L.r 1 rfl (L.y rfl (Y.lenM (g:=TL.row) (l:=x10.Queue) Tryz.underlying63 rfl (fun w' hw=>(zAt (sds:=TI.sds) (vs:=q0) (j:=1) (c:=2) hD0 (fun _ _=>rfl) ex10 rfl).cls0 hw)) (L.r 1 rfl (ln (W.block (W.loopJ (fun m gs D=>∃ gx19,gs=[(0,gv (q0 gx15.toNat) 1),(1,.func (.func 48) #[] #[pt b3 0]),(7,.int .i64 (x10.Queue.length:Int)),(8,.int .i64 gx19)]∧D=Cls w [] [.obj b11 [.int .i64 x10.Item,gv (q0 gx15.toNat) 0,gv (q0 gx15.toNat) 1] 65,.obj b3 [.int .i64 gx5] 3,.sl gv8 90 2 (gl9.map TE.row)]∧M20L4 x10 gx5 gx15 go3 gb14 gx10 m gx19=some r) ⟨0,rfl,rfl,h⟩ ⟨rfl,rfl,rfl,rfl,trivial⟩ hI ?_))))))
          rintro m _ _ ⟨gx19,rfl,rfl,h⟩
          rcases m with _ | m
          ·rw [M20L4] at h;cases h
          rw [M20L4] at h
          generalize hg4:M20L4 x10 gx5 gx15 go3 gb14 gx10 m=go4 at h
          rw [M20L4B] at h
          refine sr (L.ite h rfl (Y.lss rfl rfl) (fun c32 h=>?_) (fun c32 h=>?_))
          ·refine ln (W.seq (W.condT rfl (W.skip (E.thenN (W.seq (W.block (sr (L.r 2 rfl (ln (W.seq ?_))))))))))
           refine W.region (L.r 3 rfl (L.m (V:=fun _=>el (gv (q0 gx15.toNat) 1) (gx19.toNat*2)) h rfl (Y.indexM (g:=TL.row) (l:=x10.Queue) Tryz.underlying63 sz68 rfl rfl (fun w' hw=>(zAt (sds:=TI.sds) (vs:=q0) (j:=1) (c:=2) hD0 (fun _ _=>rfl) ex10 rfl).cls0 hw)) (fun x33 ex33 h=>(L.y rfl (Y.loadEN (r:=[.int .i64 x33.Tx,.int .i64 x33.Mode]) ag68 sz68 rfl (fun w' hw=>(zAt (sds:=TI.sds) (vs:=q0) (j:=1) (c:=2) hD0 (fun _ _=>rfl) ex10 rfl).cls0 hw) (idx_map ex33) rfl) (L.callVJ (fun v D=>v=.bool (decide (x33.Tx=gx5))∧D=Cls w [] [.obj b11 [.int .i64 x10.Item,gv (q0 gx15.toNat) 0,gv (q0 gx15.toNat) 1] 65,.obj b3 [.int .i64 gx5] 3,.sl gv8 90 2 (gl9.map TE.row)]∧M20K10 x33 gx5 gx15 go3 gb14 gx10 x10 gx19 go4=some r) rfl en48 rfl rfl Tryz.func48 rfl rfl rfl ?_ ?_)))))
           ·refine sr (L.box rfl rfl ?_)
            intro b35
            refine L.r 1 rfl (nsr (L.y rfl (Y.fieldP fd68_0 rfl) (L.y rfl (Y.loadP (i:=0) ag3 rfl rfl rfl) (L.y rfl (Y.loadP (i:=2) ag3 rfl rfl rfl) (L.y rfl (Y.eql rfl rfl) (L.r 1 rfl (ln (W.ret (E.ret1 rfl rfl (fun w1 hw=>?_))))))))))
            exact ⟨_,_,rfl,⟨rfl,rfl,h⟩,hw.s [1,2,3]⟩
           rintro _ _ ⟨rfl,rfl,h⟩
           rw [M20K10] at h
           refine ln (W.caseB (q:=16) h rfl (fun h=>?_) (fun h=>?_))
           ·exact W.condT rfl (sr (L.r 2 rfl (ln (W.ret (E.blockR (E.thenR (E.KLR (E.blockR (E.KSR (E.ret1 rfl rfl (fun w1 hw=>(⟨_,_,rfl,⟨gx19,rfl,rfl,h⟩,hw⟩))))))))))))
           exact W.condF rfl (W.skip (E.blockN (E.thenN (W.region (L.m (V:=fun x34=>.int .i64 x34) h rfl (Y.addM rfl rfl) (fun x34 ex34 h=>(L.r 1 rfl (L.nil (E.aJ ⟨x34,rfl,rfl,by rw [hg4];exact h⟩ hI)))))))))
          exact ln (W.seq (W.condF rfl (W.exit (E.thenX (E.KLX (E.blockX (E.joinJ ⟨rfl,rfl,h⟩ trivial hI)))))))
         rintro _ _ ⟨rfl,rfl,h⟩
         rw [M20K9] at h
         exact sr (L.r 1 rfl (ln (W.ret (E.ret1 rfl rfl (fun w1 hw=>(⟨_,_,rfl,⟨(-1),rfl,rfl,h⟩,hw⟩))))))
        rintro _ _ ⟨gx16,rfl,rfl,h⟩
        rw [M20K5] at h
        refine L.r 1 rfl (ln (W.seqJ (fun gs D=>gs=[(0,u0),(3,gv8),(4,pt b3 0),(5,.int .i64 gx10),(6,.bool gb14),(8,pt b11 0),(9,.int .i64 gx16),(11,.int .i64 gx5),(14,.int .i64 gx10),(17,u0),(18,.int .i64 (a0.length:Int)),(19,.int .i64 gx15)]∧D=Cls w [] [.obj b11 [.int .i64 x10.Item,gv (q0 gx15.toNat) 0,gv (q0 gx15.toNat) 1] 65,.obj b3 [.int .i64 gx5] 3,.sl gv8 90 2 (gl9.map TE.row)]∧M20K6 x10 gx10 gb14 gx15 go3 gx16=some r) ?_ ?_))
        ·refine sr (L.r 1 rfl (L.ite h rfl (Y.lss rfl rfl) (fun c28 h=>?_) (fun c28 h=>?_)))
         ·exact L.r 5 rfl (ln (W.condT rfl (W.exit (E.KSX (E.blockX (E.thenN (W.region (L.m (V:=fun x29=>.int .i64 x29) h rfl (Y.addM rfl rfl) (fun x29 ex29 h=>(L.r 1 rfl (L.nil (E.aJ ⟨gb14,x29,rfl,rfl,by rw [hg3];exact h⟩ (sI [1,2])))))))))))))
         refine L.r 1 rfl (L.take rfl (L.y rfl (Y.loadP (i:=1) ag3 rfl rfl rfl) (L.r 1 rfl (L.take rfl (L.ite h rfl (Y.eql rfl rfl) (fun c30 h=>?_) (fun c30 h=>?_))))))
         ·exact L.r 1 rfl (ln (W.condT rfl (W.exit (E.KSX (E.blockX (E.thenN (W.region (L.m (V:=fun x31=>.int .i64 x31) h rfl (Y.addM rfl rfl) (fun x31 ex31 h=>(L.r 1 rfl (L.nil (E.aJ ⟨gb14,x31,rfl,rfl,by rw [hg3];exact h⟩ (sI [1,2])))))))))))))
         exact L.r 1 rfl (ln (W.condF rfl (W.skip (E.jJ ⟨rfl,rfl,h⟩ hI))))
        rintro _ _ ⟨rfl,rfl,h⟩
        rw [M20K6] at h
        refine sr (L.y rfl (Y.fieldP fd65_1 rfl) (L.y rfl (Y.loadP (i:=0) ag63 rfl rfl rfl) (L.r 1 rfl ?_)))
        obtain ⟨x12,e13,h⟩:=bind1S h
        refine L.y rfl (Y.does en40 rfl (fun w' hw=>(W40 x10.Held gx10 (gv (q0 gx15.toNat) 0) w' _ e13 ((zAt (sds:=TI.sds) (vs:=q0) (j:=0) (c:=2) hD0 (fun _ _=>rfl) ex10 rfl).cls0 hw)).mono (fun _ _ h=>h.1))) (L.r 1 rfl (ln (W.quietC mixed (by kernel_rfl) (fun _ hw=>hw.drew) (fun hC=>(U.cutJ hC 10 (fun gs=>∃ gb17,gs=[(0,u0),(3,gv8),(4,pt b3 0),(5,.int .i64 gx10),(8,pt b11 0),(9,.int .i64 gx16),(10,.int .i64 x12),(11,.int .i64 gx5),(14,.int .i64 gx10),(17,u0),(18,.int .i64 (a0.length:Int)),(19,.int .i64 gx15),(47,.bool gb17)]∧M20K7 gx15 go3 x12 x10 gx16 gb17=some r) ?_ ?_)))))
        ·refine U.iteB h rfl (Y.move rfl) (fun c23 h=>?_) (fun c23 h=>?_)
         ·exact U.r 9 rfl (U.nil (E.joinU ⟨true,rfl,h⟩ ⟨rfl,rfl,rfl,rfl,rfl,rfl,rfl,rfl,rfl,rfl,rfl,rfl,rfl,trivial⟩))
         refine U.r 1 rfl (U.take rfl (U.y rfl (Y.fieldP fd65_2 rfl) (U.take rfl (U.y rfl (Y.loadP (i:=0) ag63 rfl rfl rfl) (U.r 1 rfl (U.take rfl (U.m (V:=fun _=>cutv (gv (q0 gx15.toNat) 1) gx16.toNat) h rfl (Y.cutM (g:=TL.row) Tryz.underlying63 sz68 rfl rfl (fun w' hw=>(zAt (sds:=TI.sds) (vs:=q0) (j:=1) (c:=2) hD0 (fun _ _=>rfl) ex10 rfl).cls0 hw)) (fun l24 el24 h=>(U.r 1 rfl (U.take rfl ?_))))))))))
         obtain ⟨x25,e26,h⟩:=bind1S h
         refine U.y rfl (Y.does en40 rfl (fun w' hw=>(W40 l24 gx10 (cutv (gv (q0 gx15.toNat) 1) gx16.toNat) w' _ e26 (((zAt (sds:=TI.sds) (vs:=q0) (j:=1) (c:=2) hD0 (fun _ _=>rfl) ex10 rfl).cutM el24).cls0 hw)).mono (fun _ _ h=>h.1))) (U.take rfl (U.ite h rfl (Y.gtr rfl rfl) (fun c27 h=>?_) (fun c27 h=>?_)))
         ·exact U.r 1 rfl (U.nil (E.joinU ⟨true,rfl,h⟩ ⟨rfl,rfl,rfl,rfl,rfl,rfl,rfl,rfl,rfl,rfl,rfl,rfl,rfl,trivial⟩))
         exact U.r 1 rfl (U.nil (E.joinU ⟨false,rfl,h⟩ ⟨rfl,rfl,rfl,rfl,rfl,rfl,rfl,rfl,rfl,rfl,rfl,rfl,rfl,trivial⟩))
        rintro _ ⟨gb17,rfl,h⟩
        rw [M20K7] at h
        rcases gb17 with _ | _
        ·replace h:=iteF h
         refine U.cutJ hC 15 (fun gs=>∃ gb18,gs=[(0,u0),(3,gv8),(4,pt b3 0),(5,.int .i64 gx10),(11,.int .i64 gx5),(14,.int .i64 gx10),(17,u0),(18,.int .i64 (a0.length:Int)),(19,.int .i64 gx15),(48,.bool false),(62,.bool gb18)]∧M20K8 gx15 go3 gb18=some r) ?_ ?_
         ·refine U.r 2 rfl (U.take rfl (U.ite h rfl (Y.gtr rfl rfl) (fun c16 h=>?_) (fun c16 h=>?_)))
          ·refine U.r 1 rfl (U.take rfl (U.y rfl (Y.loadPW (i:=0) ag65 sz65 rfl rfl rfl) (U.take rfl (U.y rfl (Y.fieldP fd65_2 rfl) (U.take rfl (U.y rfl (Y.loadP (i:=0) ag63 rfl rfl rfl) (U.r 1 rfl (U.take rfl (U.m (V:=fun _=>el (gv (q0 gx15.toNat) 1) (gx16.toNat*2)) h rfl (Y.indexM (g:=TL.row) (l:=x10.Queue) Tryz.underlying63 sz68 rfl rfl (fun w' hw=>(zAt (sds:=TI.sds) (vs:=q0) (j:=1) (c:=2) hD0 (fun _ _=>rfl) ex10 rfl).cls0 hw)) (fun x17 ex17 h=>(U.take rfl (U.y rfl (Y.loadEN (r:=[.int .i64 x17.Tx,.int .i64 x17.Mode]) ag68 sz68 rfl (fun w' hw=>(zAt (sds:=TI.sds) (vs:=q0) (j:=1) (c:=2) hD0 (fun _ _=>rfl) ex10 rfl).cls0 hw) (idx_map ex17) rfl) (U.take rfl ?_)))))))))))))
           obtain ⟨x18,e19,h⟩:=bind1S h
           refine U.y rfl (Y.does en50 rfl (fun w' hw=>(W50 x10 x17 (gv (q0 gx15.toNat) 0) (gv (q0 gx15.toNat) 1) w' _ e19 ((zAt (sds:=TI.sds) (vs:=q0) (j:=0) (c:=2) hD0 (fun _ _=>rfl) ex10 rfl).cls0 hw) ((zAt (sds:=TI.sds) (vs:=q0) (j:=1) (c:=2) hD0 (fun _ _=>rfl) ex10 rfl).cls0 hw)).mono (fun _ _ h=>h.1))) (U.r 1 rfl (U.take rfl ?_))
           obtain ⟨b20,e21,h⟩:=bind1S h
           refine U.y rfl (Y.does en49 rfl (fun w' hw=>(W49 x18 x12 w' _ e21).mono (fun _ _ h=>h.1))) ?_
           rcases b20 with _ | _
           ·replace h:=iteF h
            exact U.take rfl (U.y rfl (Y.not rfl) (U.r 1 rfl (U.nil (E.joinU ⟨true,rfl,h⟩ ⟨rfl,rfl,rfl,rfl,rfl,rfl,rfl,rfl,rfl,rfl,rfl,trivial⟩))))
           replace h:=iteT h
           exact U.take rfl (U.y rfl (Y.not rfl) (U.r 1 rfl (U.nil (E.joinU ⟨false,rfl,h⟩ ⟨rfl,rfl,rfl,rfl,rfl,rfl,rfl,rfl,rfl,rfl,rfl,trivial⟩))))
          exact U.r 12 rfl (U.nil (E.joinU ⟨false,rfl,h⟩ ⟨rfl,rfl,rfl,rfl,rfl,rfl,rfl,rfl,rfl,rfl,rfl,trivial⟩))
         rintro _ ⟨gb18,rfl,h⟩
         rw [M20K8] at h
         rcases gb18 with _ | _
         ·replace h:=iteF h
          exact U.r 2 rfl (U.nil (E.blockN (E.thenN (W.region (L.m (V:=fun x14=>.int .i64 x14) h rfl (Y.addM rfl rfl) (fun x14 ex14 h=>(L.r 1 rfl (L.nil (E.aJ ⟨false,x14,rfl,rfl,by rw [hg3];exact h⟩ (sI [1,2]))))))))))
         replace h:=iteT h
         exact U.r 2 rfl (U.nil (E.blockN (E.thenN (W.region (L.m (V:=fun x15=>.int .i64 x15) h rfl (Y.addM rfl rfl) (fun x15 ex15 h=>(L.r 1 rfl (L.nil (E.aJ ⟨true,x15,rfl,rfl,by rw [hg3];exact h⟩ (sI [1,2]))))))))))
        replace h:=iteT h
        exact U.r 17 rfl (U.nil (E.blockN (E.thenN (W.region (L.m (V:=fun x22=>.int .i64 x22) h rfl (Y.addM rfl rfl) (fun x22 ex22 h=>(L.r 1 rfl (L.nil (E.aJ ⟨true,x22,rfl,rfl,by rw [hg3];exact h⟩ (sI [1,2]))))))))))
       exact ln (W.seq (W.condF rfl (W.exit (E.thenX (E.KLX (E.blockX (E.jJ ⟨gb14,rfl,rfl,h⟩ hI)))))))
      rintro _ _ ⟨gb13,rfl,rfl,h⟩
      rw [M20K4] at h
      rcases gb13 with _ | _
      ·replace h:=iteF h
       exact sr (L.r 1 rfl (ln (W.condF rfl (W.skip (E.blockN (E.jJ ⟨gv8,gl9,rfl,rfl,h⟩ hI))))))
      replace h:=iteT h
      refine sr (L.r 1 rfl (ln (W.condT rfl (W.region (L.r 1 rfl (L.y rfl (Y.loadP (i:=0) ag3 rfl rfl rfl) (L.r 1 rfl (L.y rfl (Y.build (cells:=#[.int .i64 gx5,.int .i64 gx10]) rfl (by kernel_rfl)) (L.litAgg rfl Tryz.underlying56 eL90 rfl rfl rfl ?_)))))))))
      intro b6
      refine L.appM (i:=2) (g:=TE.row) (l:=gl9) (more:=[(⟨gx5,gx10⟩:TE)]) h rfl Tryz.underlying56 eL90 rfl rfl rfl (fun w hw=>As.at_ (hw.get (i:=0) rfl)) (plain_TEdge _) rfl ?_
      intro v7 l8 el8 h
      exact L.r 1 rfl (L.nil (E.blockN (E.jJ ⟨v7,l8,rfl,rfl,h⟩ (sI [2,0]))))
     rintro _ _ ⟨gv11,gl12,rfl,rfl,h⟩
     rw [M20K3] at h
     exact W.region (L.m (V:=fun x5=>.int .i64 x5) h rfl (Y.addM rfl rfl) (fun x5 ex5 h=>(L.r 1 rfl (L.nil (E.aJ ⟨gv11,gl12,x5,rfl,rfl,by rw [hg2];exact h⟩ hI)))))
    exact ln (W.seq (W.condF rfl (W.exit (E.thenX (E.KLX (E.blockX (E.blockN (E.jJ ⟨gv8,gl9,rfl,rfl,h⟩ (sI [1])))))))))
   rintro _ _ ⟨gv6,gl7,rfl,rfl,h⟩
   rw [M20K2] at h
   exact W.region (L.m (V:=fun x2=>.int .i64 x2) h rfl (Y.addM rfl rfl) (fun x2 ex2 h=>(L.r 1 rfl (L.nil (E.aJ ⟨gv6,gl7,x2,rfl,rfl,by rw [hg1];exact h⟩ hI)))))
  exact ln (W.seq (W.condF rfl (W.exit (E.thenX (E.KLX (E.blockX (E.jJ ⟨gv3,gl4,rfl,rfl,h⟩ hI)))))))
 rintro _ _ ⟨gv1,gl2,rfl,rfl,h⟩
 rw [M20K1] at h
 refine sr (L.r 2 rfl (ln (W.ret (E.ret1 rfl rfl (fun w1 hw=>?_)))))
 cases h
 exact ⟨_,_,rfl,⟨_,rfl,rfl⟩,hw⟩
set_option maxRecDepth 100000 in
set_option maxHeartbeats 8000000 in
theorem W43 (a0:Int) (a1:(List TE)) (u1:Value) (w:World) (r:(List (List Bool))) (h:M43 a0 a1=some r) (hA1:At w u1 2 (a1.map TE.row)):Does Tryz.prog 43 [.int .i64 a0,u1] w fun u m=>∃ v0 q0,u=v0∧m=[.sl v0 93 1 (zr svRow q0 r),.ss (zs (svSd 4 1 B) q0 r)]:=by
 rw [M43] at h
 refine body (n:=87) Tryz.func43 rfl rfl rfl (Cls.refl w) (sr (L.r 1 rfl (nsr (L.r 1 rfl ?_))))
 obtain ⟨l1,el1,h⟩:=bind1S h
 refine L.makeZ (row:=svRow) (sds:=(svSd 4 1 B)) (nv:=[nilV]) (z0:=([]:(List Bool))) el1 rfl Tryz.underlying91 eL93 ze93 rfl rfl rfl (gall1 rfl rfl gall0) ?_
 intro b2
 refine L.r 1 rfl (ln (W.seqJ (fun gs D=>∃ gl1 gq2,gs=[(0,.int .i64 a0),(1,u1),(5,(sv b2 a0.toNat))]∧D=Cls w [] [.sl (sv b2 a0.toNat) 93 1 (zr svRow gq2 gl1),.ss (zs (svSd 4 1 B) gq2 gl1)]∧M43K1 a1 a0 gl1=some r) ?_ ?_))
 ·refine sr (L.r 1 rfl (L.y rfl (Y.lenMZ (row:=svRow) (vs:=(fun _=>[nilV])) (l:=l1) Tryz.underlying91 rfl (fun w hw=>As.at_ (hw.get (i:=0) rfl))) (L.r 1 rfl (ln (W.block (W.loopJ (fun m gs D=>∃ gl15 gq16 gx17,gs=[(0,.int .i64 a0),(1,u1),(5,(sv b2 a0.toNat)),(15,.int .i64 (l1.length:Int)),(16,.int .i64 gx17)]∧D=Cls w [] [.sl (sv b2 a0.toNat) 93 1 (zr svRow gq16 gl15),.ss (zs (svSd 4 1 B) gq16 gl15)]∧M43L5 l1 a0 a1 m gl15 gx17=some r) ⟨l1,(fun _=>[nilV]),0,rfl,rfl,h⟩ ⟨rfl,rfl,rfl,rfl,rfl,trivial⟩ hI ?_))))))
  rintro m _ _ ⟨gl15,gq16,gx17,rfl,rfl,h⟩
  rcases m with _ | m
  ·rw [M43L5] at h;cases h
  rw [M43L5] at h
  generalize hg5:M43L5 l1 a0 a1 m=go5 at h
  rw [M43L5B] at h
  refine sr (L.ite h rfl (Y.lss rfl rfl) (fun c69 h=>?_) (fun c69 h=>?_))
  ·refine ln (W.seq (W.condT rfl (W.skip (E.thenN (W.seq (W.block (sr (L.r 2 rfl (nr ?_)))))))))
   refine L.r 3 rfl ?_
   obtain ⟨l70,el70,h⟩:=bind1S h
   refine L.makeE (row:=B) (z0:=false) el70 rfl Tryz.underlying93 eL4 ze4 rfl rfl rfl ?_
   intro b71
   refine L.m (V:=fun _=>el (sv b2 a0.toNat) (gx17.toNat*1)) h rfl (Y.indexMZ (row:=svRow) (vs:=gq16) (l:=gl15) Tryz.underlying91 sz93 rfl rfl (fun w hw=>As.at_ (hw.get (i:=1) rfl))) (fun x72 ex72 h=>(L.storeSlZS (row:=svRow) (sds:=(svSd 4 1 B)) (vs:=gq16) (q:=1) (p:=0) (s:=2) (c:=1) (jj:=0) (u1:=l70) (v1:=[(sv b71 a0.toNat)]) (j:=0) h sz93 rfl rfl rfl rfl rfl rfl (.inl rfl) (fun _ _=>rfl) (fun _ _=>rfl) ex72 rfl rfl rfl rfl (by decide) ?_))
   intro l73 q74 el73 h
   exact L.nil (E.blockN (E.thenN (W.region (L.m (V:=fun x75=>.int .i64 x75) h rfl (Y.addM rfl rfl) (fun x75 ex75 h=>(L.r 1 rfl (L.nil (E.aJ ⟨l73,q74,x75,rfl,rfl,by rw [hg5];exact h⟩ hI))))))))
  exact ln (W.seq (W.condF rfl (W.exit (E.thenX (E.KLX (E.blockX (E.jJ ⟨gl15,gq16,rfl,rfl,h⟩ hI)))))))
 rintro _ _ ⟨gl1,gq2,rfl,rfl,h⟩
 rw [M43K1] at h
 refine W.seqJ (fun gs D=>∃ gl3,gs=[(0,.int .i64 a0),(5,(sv b2 a0.toNat))]∧D=Cls w [] [.sl (sv b2 a0.toNat) 93 1 (zr svRow gq2 gl3),.ss (zs (svSd 4 1 B) gq2 gl3)]∧M43K2 a0 gl3=some r) ?_ ?_
 ·refine sr (L.r 1 rfl (L.y rfl (Y.lenM (g:=TE.row) (l:=a1) Tryz.underlying56 rfl (fun w' hw=>hA1.cls0 hw)) (L.r 1 rfl (ln (W.block (W.loopJ (fun m gs D=>∃ gl13 gx14,gs=[(0,.int .i64 a0),(5,(sv b2 a0.toNat)),(25,u1),(26,.int .i64 (a1.length:Int)),(27,.int .i64 gx14)]∧D=Cls w [] [.sl (sv b2 a0.toNat) 93 1 (zr svRow gq2 gl13),.ss (zs (svSd 4 1 B) gq2 gl13)]∧M43L4 a1 a0 m gl13 gx14=some r) ⟨gl1,0,rfl,rfl,h⟩ ⟨rfl,rfl,rfl,rfl,rfl,trivial⟩ hI ?_))))))
  rintro m _ _ ⟨gl13,gx14,rfl,rfl,h⟩
  rcases m with _ | m
  ·rw [M43L4] at h;cases h
  rw [M43L4] at h
  generalize hg4:M43L4 a1 a0 m=go4 at h
  rw [M43L4B] at h
  refine sr (L.ite h rfl (Y.lss rfl rfl) (fun c48 h=>?_) (fun c48 h=>?_))
  ·refine ln (W.seq (W.condT rfl (W.skip (E.thenN (W.seq (W.block (sr (L.m (V:=fun _=>el u1 (gx14.toNat*2)) h rfl (Y.indexM (g:=TE.row) (l:=a1) Tryz.underlying56 sz90 rfl rfl (fun w' hw=>hA1.cls0 hw)) (fun x49 ex49 h=>(L.y rfl (Y.loadEN (r:=[.int .i64 x49.From,.int .i64 x49.To]) ag90 sz90 rfl (fun w' hw=>hA1.cls0 hw) (idx_map ex49) rfl) (L.alloc rfl ze90 ?_)))))))))))
   intro b50
   refine L.store (i:=0) (vs:=[.int .i64 x49.From,.int .i64 x49.To]) sz90 rfl rfl rfl rfl (by simp [Value.oneCell',Value.cells,st,pt,el]) rfl nb (ln (W.drawn2 (k:=9) (stC [[8]] [Cls w [] [.obj b50 [.int .i64 x49.From,.int .i64 x49.To] 90,.sl (sv b2 a0.toNat) 93 1 (zr svRow gq2 gl13),.ss (zs (svSd 4 1 B) gq2 gl13)]] (Cls w [] [.obj b50 [.int .i64 x49.From,.int .i64 x49.To] 90])) rfl mixed (fun _ hw=>hw.drew) (Sc.now (by kernel_rfl) hI) (V2.zz [] (Zc.on' (Zc.fin hI) (sI [0])) (fun hz62=>(V2.r [0] (by kernel_rfl) rfl (V2.q 1 [] hz62 rfl rfl (Y.fieldP fd90_0 rfl) (V2.q 2 [] hz62 rfl rfl (Y.loadP (i:=0) ag3 rfl rfl rfl) (V2.zz [8] (Zc.at1 hI) (fun hz63=>(V2.m (i:=3) (V':=fun _=>el (sv b2 a0.toNat) (x49.From.toNat*1)) h (Nx2.of [8] (by kernel_rfl) rfl hz63) rfl rfl rfl (Y.indexMZ (row:=svRow) (vs:=gq2) (l:=gl13) Tryz.underlying91 sz93 rfl rfl (fun w hw=>As.at_ (hw.get (i:=1) rfl))) (fun x64 ex64 h=>(V2.q 4 [8] hz63 rfl rfl (Y.loadE1 (u:=gv (gq2 x49.From.toNat) 0) ag93 rfl (fun w hw=>As.at_ (hw.get (i:=1) rfl)) (zr_idx (vs:=gq2) ex64)) (V2.q 5 [] hz62 rfl rfl (Y.fieldP fd90_1 rfl) (V2.q 6 [] hz62 rfl rfl (Y.loadP (i:=0) ag3 rfl rfl rfl) (V2.m (i:=7) (V':=fun _=>el (gv (gq2 x49.From.toNat) 0) (x49.To.toNat*1)) h (Nx2.of [8] (by kernel_rfl) rfl hz63) rfl rfl rfl (Y.indexM (g:=B) (l:=x64) Tryz.underlying93 sz4 rfl rfl (fun w hw=>As.atZ (sds:=(svSd 4 1 B)) (vs:=gq2) (j:=0) (c:=1) (hw.get (i:=2) rfl) (fun _ _=>rfl) ex64 rfl)) (fun x65 ex65 h=>?_))))))))))))))))
   refine V2.eff (i:=8) (by kernel_rfl) rfl (L.ssOut (sds:=(svSd 4 1 B)) (vs:=gq2) (s:=2) (j:=0) (c:=1) rfl (fun _ _=>rfl) ex64 rfl (L.storeSlM (q:=0) (row:=B) (vs:=[.bool true]) (j:=0) (u1:=true) h sz4 rfl rfl rfl rfl rfl (all1 rfl all0) rfl ex65 rfl rfl ?_))
   intro l66 el66 h
   refine L.ssBack (row:=svRow) (sds:=(svSd 4 1 B)) (vs:=gq2) (p:=0) (s:=3) (q:=2) (c:=1) (jj:=0) (u1:=l66) (fun z=>.sl (sv b2 a0.toNat) 93 1 z) h rfl rfl rfl (fun _ _=>rfl) ex64 rfl rfl rfl ?_
   intro l67 el67 h
   exact L.nil (E.toV2 (stC [] [] (Cls w [] [.obj b50 [.int .i64 x49.From,.int .i64 x49.To] 90])) 8 (by kernel_rfl) (Sc.past rfl (Sc.stayD hI)) (Sc.atD (sI [0])) (V2.done (by kernel_rfl) (E.blockN (E.thenN (W.region (L.m (V:=fun x68=>.int .i64 x68) h rfl (Y.addM rfl rfl) (fun x68 ex68 h=>(L.r 1 rfl (L.nil (E.aJ ⟨l67,x68,rfl,rfl,by rw [hg4];exact h⟩ (sI [1,2])))))))))))
  exact ln (W.seq (W.condF rfl (W.exit (E.thenX (E.KLX (E.blockX (E.jJ ⟨gl13,rfl,rfl,h⟩ hI)))))))
 rintro _ _ ⟨gl3,rfl,rfl,h⟩
 rw [M43K2] at h
 refine W.seqJ (fun gs D=>∃ gl4,gs=[(5,(sv b2 a0.toNat))]∧D=Cls w [] [.sl (sv b2 a0.toNat) 93 1 (zr svRow gq2 gl4),.ss (zs (svSd 4 1 B) gq2 gl4)]∧M43K3 gl4=some r) ?_ ?_
 ·refine sr (L.r 2 rfl (ln (W.block (W.loopJ (fun m gs D=>∃ gl5 gx6,gs=[(0,.int .i64 a0),(5,(sv b2 a0.toNat)),(40,.int .i64 a0),(41,.int .i64 gx6)]∧D=Cls w [] [.sl (sv b2 a0.toNat) 93 1 (zr svRow gq2 gl5),.ss (zs (svSd 4 1 B) gq2 gl5)]∧M43L1 a0 m gl5 gx6=some r) ⟨gl3,0,rfl,rfl,h⟩ ⟨rfl,rfl,rfl,rfl,trivial⟩ hI ?_))))
  rintro m _ _ ⟨gl5,gx6,rfl,rfl,h⟩
  rcases m with _ | m
  ·rw [M43L1] at h;cases h
  rw [M43L1] at h
  generalize hg1:M43L1 a0 m=go1 at h
  rw [M43L1B] at h
  refine sr (L.ite h rfl (Y.lss rfl rfl) (fun c3 h=>?_) (fun c3 h=>?_))
  ·refine ln (W.seq (W.condT rfl (W.skip (E.thenN (W.seqJ (fun gs D=>∃ gl7,gs=[(0,.int .i64 a0),(5,(sv b2 a0.toNat)),(40,.int .i64 a0),(41,.int .i64 gx6)]∧D=Cls w [] [.sl (sv b2 a0.toNat) 93 1 (zr svRow gq2 gl7),.ss (zs (svSd 4 1 B) gq2 gl7)]∧M43K4 gx6 go1 gl7=some r) ?_ ?_)))))
   ·refine W.block (sr (L.r 2 rfl (nsr (L.r 2 rfl (ln (W.block (W.loopJ (fun m gs D=>∃ gl8 gx9,gs=[(0,.int .i64 a0),(5,(sv b2 a0.toNat)),(9,.int .i64 gx6),(40,.int .i64 a0),(41,.int .i64 gx6),(44,.int .i64 a0),(45,.int .i64 gx9)]∧D=Cls w [] [.sl (sv b2 a0.toNat) 93 1 (zr svRow gq2 gl8),.ss (zs (svSd 4 1 B) gq2 gl8)]∧M43L2 a0 gx6 go1 m gl8 gx9=some r) ⟨gl5,0,rfl,rfl,h⟩ ⟨rfl,rfl,rfl,rfl,rfl,rfl,rfl,trivial⟩ hI ?_)))))))
    rintro m _ _ ⟨gl8,gx9,rfl,rfl,h⟩
    rcases m with _ | m
    ·rw [M43L2] at h;cases h
    rw [M43L2] at h
    generalize hg2:M43L2 a0 gx6 go1 m=go2 at h
    rw [M43L2B] at h
    refine sr (L.ite h rfl (Y.lss rfl rfl) (fun c5 h=>?_) (fun c5 h=>?_))
    ·refine ln (W.seq (W.condT rfl (W.skip (E.thenN (W.seqJ (fun gs D=>∃ gl10,gs=[(0,.int .i64 a0),(5,(sv b2 a0.toNat)),(9,.int .i64 gx6),(40,.int .i64 a0),(41,.int .i64 gx6),(44,.int .i64 a0),(45,.int .i64 gx9)]∧D=Cls w [] [.sl (sv b2 a0.toNat) 93 1 (zr svRow gq2 gl10),.ss (zs (svSd 4 1 B) gq2 gl10)]∧M43K5 gx9 go2 gl10=some r) ?_ ?_)))))
     ·refine W.block (sr (L.r 2 rfl (nsr (L.r 2 rfl (ln (W.block (W.loopJ (fun m gs D=>∃ gl11 gx12,gs=[(0,.int .i64 a0),(5,(sv b2 a0.toNat)),(9,.int .i64 gx6),(10,.int .i64 gx9),(40,.int .i64 a0),(41,.int .i64 gx6),(44,.int .i64 a0),(45,.int .i64 gx9),(48,.int .i64 a0),(49,.int .i64 gx12)]∧D=Cls w [] [.sl (sv b2 a0.toNat) 93 1 (zr svRow gq2 gl11),.ss (zs (svSd 4 1 B) gq2 gl11)]∧M43L3 a0 gx9 gx6 go2 m gl11 gx12=some r) ⟨gl8,0,rfl,rfl,h⟩ ⟨rfl,rfl,rfl,rfl,rfl,rfl,rfl,rfl,rfl,rfl,trivial⟩ hI ?_)))))))
      rintro m _ _ ⟨gl11,gx12,rfl,rfl,h⟩
      rcases m with _ | m
      ·rw [M43L3] at h;cases h
      rw [M43L3] at h
      generalize hg3:M43L3 a0 gx9 gx6 go2 m=go3 at h
      rw [M43L3B] at h
      refine sr (L.ite h rfl (Y.lss rfl rfl) (fun c7 h=>?_) (fun c7 h=>?_))
      ·refine ln (W.seq (W.condT rfl (W.skip (E.thenN (W.seq (W.block (sr (L.r 2 rfl (ln (W.drawn2 (k:=32) (stC [[31]] [Cls w [] [.sl (sv b2 a0.toNat) 93 1 (zr svRow gq2 gl11),.ss (zs (svSd 4 1 B) gq2 gl11)]] (Cls w [] [])) rfl mixed (fun _ hw=>hw.drew) (Sc.now (by kernel_rfl) hI) ?_))))))))))
       refine V2.r [0,1] (by kernel_rfl) rfl (V2.zz [31] (Zc.at1 hI) (fun hz26=>(V2.m (i:=2) (V':=fun _=>el (sv b2 a0.toNat) (gx9.toNat*1)) h (Nx2.of [31] (by kernel_rfl) rfl hz26) rfl rfl rfl (Y.indexMZ (row:=svRow) (vs:=gq2) (l:=gl11) Tryz.underlying91 sz93 rfl rfl (fun w hw=>As.at_ (hw.get (i:=0) rfl))) (fun x27 ex27 h=>(V2.q 3 [31] hz26 rfl rfl (Y.loadE1 (u:=gv (gq2 gx9.toNat) 0) ag93 rfl (fun w hw=>As.at_ (hw.get (i:=0) rfl)) (zr_idx (vs:=gq2) ex27)) (V2.r [4,5,6] (by kernel_rfl) rfl (V2.m (i:=7) (V':=fun _=>el (sv b2 a0.toNat) (gx9.toNat*1)) h (Nx2.of [31] (by kernel_rfl) rfl hz26) rfl rfl rfl (Y.indexMZ (row:=svRow) (vs:=gq2) (l:=gl11) Tryz.underlying91 sz93 rfl rfl (fun w hw=>As.at_ (hw.get (i:=0) rfl))) (fun x28 ex28 h=>(V2.q 8 [31] hz26 rfl rfl (Y.loadE1 (u:=gv (gq2 gx9.toNat) 0) ag93 rfl (fun w hw=>As.at_ (hw.get (i:=0) rfl)) (zr_idx (vs:=gq2) ex28)) (V2.r [9] (by kernel_rfl) rfl (V2.m (i:=10) (V':=fun _=>el (gv (gq2 gx9.toNat) 0) (gx12.toNat*1)) h (Nx2.of [31] (by kernel_rfl) rfl hz26) rfl rfl rfl (Y.indexM (g:=B) (l:=x28) Tryz.underlying93 sz4 rfl rfl (fun w hw=>As.atZ (sds:=(svSd 4 1 B)) (vs:=gq2) (j:=0) (c:=1) (hw.get (i:=1) rfl) (fun _ _=>rfl) ex28 rfl)) (fun x29 ex29 h=>(V2.iteB (i:=11) h (Nx2.of [31] (by kernel_rfl) rfl hz26) rfl rfl rfl (Y.loadE1 (u:=.bool x29) ag4 rfl (fun w hw=>As.atZ (sds:=(svSd 4 1 B)) (vs:=gq2) (j:=0) (c:=1) (hw.get (i:=1) rfl) (fun _ _=>rfl) ex28 rfl) (idx_map ex29)) (fun c30 h=>?_) (fun c30 h=>?_))))))))))))))
       ·refine V2.r [12,13,14,15,16,17,18,19,20,21,22,23,24,25,26,27,28,29] (by kernel_rfl) rfl (V2.m (i:=30) (V':=fun _=>el (gv (gq2 gx9.toNat) 0) (gx12.toNat*1)) h (Nx2.of [31] (by kernel_rfl) rfl hz26) rfl rfl rfl (Y.indexM (g:=B) (l:=x27) Tryz.underlying93 sz4 rfl rfl (fun w hw=>As.atZ (sds:=(svSd 4 1 B)) (vs:=gq2) (j:=0) (c:=1) (hw.get (i:=1) rfl) (fun _ _=>rfl) ex27 rfl)) (fun x31 ex31 h=>(V2.eff (i:=31) (by kernel_rfl) rfl (L.ssOut (sds:=(svSd 4 1 B)) (vs:=gq2) (s:=1) (j:=0) (c:=1) rfl (fun _ _=>rfl) ex27 rfl (L.storeSlM (q:=0) (row:=B) (vs:=[.bool true]) (j:=0) (u1:=true) h sz4 rfl rfl rfl rfl rfl (all1 rfl all0) rfl ex31 rfl rfl ?_)))))
        intro l32 el32 h
        refine L.ssBack (row:=svRow) (sds:=(svSd 4 1 B)) (vs:=gq2) (p:=0) (s:=2) (q:=1) (c:=1) (jj:=0) (u1:=l32) (fun z=>.sl (sv b2 a0.toNat) 93 1 z) h rfl rfl rfl (fun _ _=>rfl) ex27 rfl rfl rfl ?_
        intro l33 el33 h
        exact L.nil (E.toV2 (stC [] [] (Cls w [] [])) 31 (by kernel_rfl) (Sc.past rfl (Sc.stayD hI)) (Sc.atD (sI [])) (V2.done (by kernel_rfl) (E.blockN (E.thenN (W.region (L.m (V:=fun x34=>.int .i64 x34) h rfl (Y.addM rfl rfl) (fun x34 ex34 h=>(L.r 1 rfl (L.nil (E.aJ ⟨l33,x34,rfl,rfl,by rw [hg3];exact h⟩ hI))))))))))
       refine V2.r [12,13,14] (by kernel_rfl) rfl (V2.m (i:=15) (V':=fun _=>el (sv b2 a0.toNat) (gx9.toNat*1)) h (Nx2.of [31] (by kernel_rfl) rfl hz26) rfl rfl rfl (Y.indexMZ (row:=svRow) (vs:=gq2) (l:=gl11) Tryz.underlying91 sz93 rfl rfl (fun w hw=>As.at_ (hw.get (i:=0) rfl))) (fun x35 ex35 h=>(V2.q 16 [31] hz26 rfl rfl (Y.loadE1 (u:=gv (gq2 gx9.toNat) 0) ag93 rfl (fun w hw=>As.at_ (hw.get (i:=0) rfl)) (zr_idx (vs:=gq2) ex35)) (V2.r [17] (by kernel_rfl) rfl (V2.m (i:=18) (V':=fun _=>el (gv (gq2 gx9.toNat) 0) (gx6.toNat*1)) h (Nx2.of [31] (by kernel_rfl) rfl hz26) rfl rfl rfl (Y.indexM (g:=B) (l:=x35) Tryz.underlying93 sz4 rfl rfl (fun w hw=>As.atZ (sds:=(svSd 4 1 B)) (vs:=gq2) (j:=0) (c:=1) (hw.get (i:=1) rfl) (fun _ _=>rfl) ex35 rfl)) (fun x36 ex36 h=>(V2.iteB (i:=19) h (Nx2.of [31] (by kernel_rfl) rfl hz26) rfl rfl rfl (Y.loadE1 (u:=.bool x36) ag4 rfl (fun w hw=>As.atZ (sds:=(svSd 4 1 B)) (vs:=gq2) (j:=0) (c:=1) (hw.get (i:=1) rfl) (fun _ _=>rfl) ex35 rfl) (idx_map ex36)) (fun c37 h=>?_) (fun c37 h=>?_))))))))
       ·refine V2.r [20,21,22] (by kernel_rfl) rfl (V2.m (i:=23) (V':=fun _=>el (sv b2 a0.toNat) (gx6.toNat*1)) h (Nx2.of [31] (by kernel_rfl) rfl hz26) rfl rfl rfl (Y.indexMZ (row:=svRow) (vs:=gq2) (l:=gl11) Tryz.underlying91 sz93 rfl rfl (fun w hw=>As.at_ (hw.get (i:=0) rfl))) (fun x38 ex38 h=>(V2.q 24 [31] hz26 rfl rfl (Y.loadE1 (u:=gv (gq2 gx6.toNat) 0) ag93 rfl (fun w hw=>As.at_ (hw.get (i:=0) rfl)) (zr_idx (vs:=gq2) ex38)) (V2.r [25] (by kernel_rfl) rfl (V2.m (i:=26) (V':=fun _=>el (gv (gq2 gx6.toNat) 0) (gx12.toNat*1)) h (Nx2.of [31] (by kernel_rfl) rfl hz26) rfl rfl rfl (Y.indexM (g:=B) (l:=x38) Tryz.underlying93 sz4 rfl rfl (fun w hw=>As.atZ (sds:=(svSd 4 1 B)) (vs:=gq2) (j:=0) (c:=1) (hw.get (i:=1) rfl) (fun _ _=>rfl) ex38 rfl)) (fun x39 ex39 h=>(V2.q 27 [31] hz26 rfl rfl (Y.loadE1 (u:=.bool x39) ag4 rfl (fun w hw=>As.atZ (sds:=(svSd 4 1 B)) (vs:=gq2) (j:=0) (c:=1) (hw.get (i:=1) rfl) (fun _ _=>rfl) ex38 rfl) (idx_map ex39)) (V2.r [28,29] (by kernel_rfl) rfl (V2.m (i:=30) (V':=fun _=>el (gv (gq2 gx9.toNat) 0) (gx12.toNat*1)) h (Nx2.of [31] (by kernel_rfl) rfl hz26) rfl rfl rfl (Y.indexM (g:=B) (l:=x27) Tryz.underlying93 sz4 rfl rfl (fun w hw=>As.atZ (sds:=(svSd 4 1 B)) (vs:=gq2) (j:=0) (c:=1) (hw.get (i:=1) rfl) (fun _ _=>rfl) ex27 rfl)) (fun x40 ex40 h=>(V2.eff (i:=31) (by kernel_rfl) rfl (L.ssOut (sds:=(svSd 4 1 B)) (vs:=gq2) (s:=1) (j:=0) (c:=1) rfl (fun _ _=>rfl) ex27 rfl (L.storeSlM (q:=0) (row:=B) (vs:=[.bool x39]) (j:=0) (u1:=x39) h sz4 rfl rfl rfl rfl rfl (all1 rfl all0) rfl ex40 rfl rfl ?_)))))))))))))
        intro l41 el41 h
        refine L.ssBack (row:=svRow) (sds:=(svSd 4 1 B)) (vs:=gq2) (p:=0) (s:=2) (q:=1) (c:=1) (jj:=0) (u1:=l41) (fun z=>.sl (sv b2 a0.toNat) 93 1 z) h rfl rfl rfl (fun _ _=>rfl) ex27 rfl rfl rfl ?_
        intro l42 el42 h
        exact L.nil (E.toV2 (stC [] [] (Cls w [] [])) 31 (by kernel_rfl) (Sc.past rfl (Sc.stayD hI)) (Sc.atD (sI [])) (V2.done (by kernel_rfl) (E.blockN (E.thenN (W.region (L.m (V:=fun x43=>.int .i64 x43) h rfl (Y.addM rfl rfl) (fun x43 ex43 h=>(L.r 1 rfl (L.nil (E.aJ ⟨l42,x43,rfl,rfl,by rw [hg3];exact h⟩ hI))))))))))
       refine V2.r [20,21,22,23,24,25,26,27,28,29] (by kernel_rfl) rfl (V2.m (i:=30) (V':=fun _=>el (gv (gq2 gx9.toNat) 0) (gx12.toNat*1)) h (Nx2.of [31] (by kernel_rfl) rfl hz26) rfl rfl rfl (Y.indexM (g:=B) (l:=x27) Tryz.underlying93 sz4 rfl rfl (fun w hw=>As.atZ (sds:=(svSd 4 1 B)) (vs:=gq2) (j:=0) (c:=1) (hw.get (i:=1) rfl) (fun _ _=>rfl) ex27 rfl)) (fun x44 ex44 h=>(V2.eff (i:=31) (by kernel_rfl) rfl (L.ssOut (sds:=(svSd 4 1 B)) (vs:=gq2) (s:=1) (j:=0) (c:=1) rfl (fun _ _=>rfl) ex27 rfl (L.storeSlM (q:=0) (row:=B) (vs:=[.bool false]) (j:=0) (u1:=false) h sz4 rfl rfl rfl rfl rfl (all1 rfl all0) rfl ex44 rfl rfl ?_)))))
       intro l45 el45 h
       refine L.ssBack (row:=svRow) (sds:=(svSd 4 1 B)) (vs:=gq2) (p:=0) (s:=2) (q:=1) (c:=1) (jj:=0) (u1:=l45) (fun z=>.sl (sv b2 a0.toNat) 93 1 z) h rfl rfl rfl (fun _ _=>rfl) ex27 rfl rfl rfl ?_
       intro l46 el46 h
       exact L.nil (E.toV2 (stC [] [] (Cls w [] [])) 31 (by kernel_rfl) (Sc.past rfl (Sc.stayD hI)) (Sc.atD (sI [])) (V2.done (by kernel_rfl) (E.blockN (E.thenN (W.region (L.m (V:=fun x47=>.int .i64 x47) h rfl (Y.addM rfl rfl) (fun x47 ex47 h=>(L.r 1 rfl (L.nil (E.aJ ⟨l46,x47,rfl,rfl,by rw [hg3];exact h⟩ hI))))))))))
      exact ln (W.seq (W.condF rfl (W.exit (E.thenX (E.KLX (E.blockX (E.blockN (E.jJ ⟨gl11,rfl,rfl,h⟩ hI))))))))
     rintro _ _ ⟨gl10,rfl,rfl,h⟩
     rw [M43K5] at h
     exact W.region (L.m (V:=fun x6=>.int .i64 x6) h rfl (Y.addM rfl rfl) (fun x6 ex6 h=>(L.r 1 rfl (L.nil (E.aJ ⟨gl10,x6,rfl,rfl,by rw [hg2];exact h⟩ hI)))))
    exact ln (W.seq (W.condF rfl (W.exit (E.thenX (E.KLX (E.blockX (E.blockN (E.jJ ⟨gl8,rfl,rfl,h⟩ hI))))))))
   rintro _ _ ⟨gl7,rfl,rfl,h⟩
   rw [M43K4] at h
   exact W.region (L.m (V:=fun x4=>.int .i64 x4) h rfl (Y.addM rfl rfl) (fun x4 ex4 h=>(L.r 1 rfl (L.nil (E.aJ ⟨gl7,x4,rfl,rfl,by rw [hg1];exact h⟩ hI)))))
  exact ln (W.seq (W.condF rfl (W.exit (E.thenX (E.KLX (E.blockX (E.jJ ⟨gl5,rfl,rfl,h⟩ hI)))))))
 rintro _ _ ⟨gl4,rfl,rfl,h⟩
 rw [M43K3] at h
 refine sr (L.r 2 rfl (ln (W.ret (E.ret1 rfl rfl (fun w1 hw=>?_)))))
 cases h
 exact ⟨_,_,rfl,⟨_,_,rfl,rfl⟩,hw⟩
set_option maxRecDepth 100000 in
set_option maxHeartbeats 8000000 in
theorem W19 (a0:Int) (a1:(List TE)) (u1:Value) (w:World) (r:(List Int)) (h:M19 a0 a1=some r) (hA1:At w u1 2 (a1.map TE.row)):Does Tryz.prog 19 [.int .i64 a0,u1] w fun u m=>∃ v0,u=v0∧m=[.sl v0 3 1 (r.map I)]:=by
 rw [M19] at h
 refine body (n:=40) Tryz.func19 rfl rfl rfl (Cls.refl w) (sr (L.r 1 rfl (nsr (L.r 1 rfl (nsr (L.r 1 rfl ?_))))))
 obtain ⟨l1,e3,h⟩:=bind1S h
 refine L.does rfl en42 rfl (fun w' hw=>W42 a1 u1 w' _ e3 (hA1.cls0 hw)) ?_
 rintro v2 _ ⟨_,rfl,rfl⟩
 refine L.r 1 rfl (ln (W.block (W.nilSl 3 1 (W.loopJ (fun m gs D=>∃ gv1 gl2 gv3 gl4,gs=[(0,.int .i64 a0),(5,gv1),(6,gv3)]∧D=Cls w [] [.sl gv1 3 1 (gl2.map I),.sl gv3 90 2 (gl4.map TE.row)]∧M19L1 a0 m gl2 gl4=some r) ⟨.slice none 0 0,[],v2,l1,rfl,rfl,h⟩ ⟨rfl,rfl,rfl,trivial⟩ hI ?_))))
 rintro m _ _ ⟨gv1,gl2,gv3,gl4,rfl,rfl,h⟩
 rcases m with _ | m
 ·rw [M19L1] at h;cases h
 rw [M19L1] at h
 generalize hg1:M19L1 a0 m=go1 at h
 rw [M19L1B] at h
 refine W.block (sr (L.r 2 rfl ?_))
 obtain ⟨l4,e7,h⟩:=bind1S h
 refine L.does rfl en43 rfl (fun w' hw=>W43 a0 gl4 gv3 w' _ e7 (As.at_ (hw.get (i:=1) rfl))) ?_
 rintro v5 _ ⟨_,q6,rfl,rfl⟩
 refine L.r 1 rfl (nsr (L.alloc rfl ze3 ?_))
 intro b8
 refine L.store (i:=0) (vs:=[.int .i64 (-1)]) sz3 rfl rfl rfl rfl (by simp [Value.oneCell',Value.cells,st,pt,el]) rfl nb (ln (W.seqJ (fun gs D=>∃ gx5,gs=[(0,.int .i64 a0),(5,gv1),(6,gv3),(8,pt b8 0)]∧D=Cls w [] [.obj b8 [.int .i64 gx5] 3,.sl gv1 3 1 (gl2.map I),.sl gv3 90 2 (gl4.map TE.row)]∧M19K1 gl2 gl4 go1 gx5=some r) ?_ ?_))
 ·refine sr (L.r 2 rfl (ln (W.block (W.loopJ (fun m gs D=>∃ gx17 gx18,gs=[(0,.int .i64 a0),(5,gv1),(6,gv3),(7,v5),(8,pt b8 0),(15,.int .i64 a0),(16,.int .i64 gx17)]∧D=Cls w [] [.obj b8 [.int .i64 gx18] 3,.sl gv1 3 1 (gl2.map I),.sl gv3 90 2 (gl4.map TE.row),.sl v5 93 1 (zr svRow q6 l4),.ss (zs (svSd 4 1 B) q6 l4)]∧M19L4 a0 l4 gl2 gl4 go1 m gx17 gx18=some r) ⟨0,(-1),rfl,rfl,h⟩ ⟨rfl,rfl,rfl,rfl,rfl,rfl,rfl,trivial⟩ (sI [0,3,4,1,2]) ?_))))
  rintro m _ _ ⟨gx17,gx18,rfl,rfl,h⟩
  rcases m with _ | m
  ·rw [M19L4] at h;cases h
  rw [M19L4] at h
  generalize hg4:M19L4 a0 l4 gl2 gl4 go1 m=go4 at h
  rw [M19L4B] at h
  refine sr (L.ite h rfl (Y.lss rfl rfl) (fun c35 h=>?_) (fun c35 h=>?_))
  ·refine ln (W.seq (W.condT rfl (W.skip (E.thenN (W.seq (W.block (sr (L.r 2 rfl (ln (W.seq ?_))))))))))
   refine W.region (L.r 2 rfl (L.m (V:=fun _=>el v5 (gx17.toNat*1)) h rfl (Y.indexMZ (row:=svRow) (vs:=q6) (l:=l4) Tryz.underlying91 sz93 rfl rfl (fun w hw=>As.at_ (hw.get (i:=3) rfl))) (fun x36 ex36 h=>(L.y rfl (Y.loadE1 (u:=gv (q6 gx17.toNat) 0) ag93 rfl (fun w hw=>As.at_ (hw.get (i:=3) rfl)) (zr_idx (vs:=q6) ex36)) (L.r 1 rfl (L.m (V:=fun _=>el (gv (q6 gx17.toNat) 0) (gx17.toNat*1)) h rfl (Y.indexM (g:=B) (l:=x36) Tryz.underlying93 sz4 rfl rfl (fun w hw=>As.atZ (sds:=(svSd 4 1 B)) (vs:=q6) (j:=0) (c:=1) (hw.get (i:=4) rfl) (fun _ _=>rfl) ex36 rfl)) (fun x37 ex37 h=>(L.iteB h rfl (Y.loadE1 (u:=.bool x37) ag4 rfl (fun w hw=>As.atZ (sds:=(svSd 4 1 B)) (vs:=q6) (j:=0) (c:=1) (hw.get (i:=4) rfl) (fun _ _=>rfl) ex36 rfl) (idx_map ex37)) (fun c38 h=>?_) (fun c38 h=>?_)))))))))
   ·exact ln (W.condT rfl (W.region (L.r 1 rfl (L.store (i:=0) (vs:=[.int .i64 gx17]) sz3 rfl rfl rfl rfl (by simp [Value.oneCell',Value.cells,st,pt,el]) rfl nb (L.nil (E.blockN (E.thenN (W.region (L.m (V:=fun x39=>.int .i64 x39) h rfl (Y.addM rfl rfl) (fun x39 ex39 h=>(L.r 1 rfl (L.nil (E.aJ ⟨x39,gx17,rfl,rfl,by rw [hg4];exact h⟩ hI)))))))))))))
   exact ln (W.condF rfl (W.skip (E.blockN (E.thenN (W.region (L.m (V:=fun x40=>.int .i64 x40) h rfl (Y.addM rfl rfl) (fun x40 ex40 h=>(L.r 1 rfl (L.nil (E.aJ ⟨x40,gx18,rfl,rfl,by rw [hg4];exact h⟩ hI))))))))))
  exact ln (W.seq (W.condF rfl (W.exit (E.thenX (E.KLX (E.blockX (E.jJ ⟨gx18,rfl,rfl,h⟩ (sI [0,1,2]))))))))
 rintro _ _ ⟨gx5,rfl,rfl,h⟩
 rw [M19K1] at h
 refine W.seqJ (fun gs D=>gs=[(0,.int .i64 a0),(5,gv1),(6,gv3),(8,pt b8 0)]∧D=Cls w [] [.obj b8 [.int .i64 gx5] 3,.sl gv1 3 1 (gl2.map I),.sl gv3 90 2 (gl4.map TE.row)]∧M19K2 gl2 gx5 gl4 go1=some r) ?_ ?_
 ·refine sr (L.y rfl (Y.loadP (i:=0) ag3 rfl rfl rfl) (L.ite h rfl (Y.lss rfl rfl) (fun c33 h=>?_) (fun c33 h=>?_)))
  ·refine ln (W.condT rfl (sr (L.r 1 rfl (L.sortMD (i:=1) (l:=gl2) h wSort rfl en44 rfl rfl ?_))))
   intro l34 el34 h
   refine nsr (L.r 2 rfl (ln (W.ret (E.KSR (E.blockR (E.KLR (E.blockR (E.ret1 rfl rfl (fun w1 hw=>?_)))))))))
   cases h
   exact ⟨_,_,rfl,⟨_,rfl,rfl⟩,hw.s [1]⟩
  exact ln (W.condF rfl (W.skip (E.jJ ⟨rfl,rfl,h⟩ hI)))
 rintro _ _ ⟨rfl,rfl,h⟩
 rw [M19K2] at h
 refine sr (L.r 1 rfl (L.y rfl (Y.loadP (i:=0) ag3 rfl rfl rfl) (L.litOne rfl Tryz.underlying23 eL3 rfl rfl ?_)))
 intro b9
 refine L.appM (i:=2) (g:=I) (l:=gl2) (more:=[gx5]) h rfl Tryz.underlying23 eL3 rfl rfl rfl (fun w hw=>As.at_ (hw.get (i:=0) rfl)) (plain_ints _) rfl ?_
 intro v10 l11 el11 h
 refine L.r 1 rfl (nr (L.r 1 rfl (L.y rfl (Y.func rfl) (L.callJ (fun v D=>∃ gv6 gl7,v=gv6∧D=Cls w [] [.sl v10 3 1 (l11.map I),.sl gv6 90 2 (gl7.map TE.row)]∧M19K3 go1 l11 gl7=some r) rfl en45 rfl Tryz.func45 rfl rfl rfl ?_ ?_))))
 ·refine sr (L.r 1 rfl (nsr (L.r 2 rfl (L.callJ (fun v D=>∃ gx8,v=.int .i64 gx8∧D=Cls w [] [.obj b8 [.int .i64 gx5] 3,.sl gv3 90 2 (gl4.map TE.row),.sl v10 3 1 (l11.map I)]∧M19K4 go1 l11 gl4 gx5 gx8=some r) rfl en72 rfl Tryz.func72 rfl rfl rfl ?_ ?_))))
  ·refine sr (L.r 1 rfl (ln (W.seqJ (fun gs D=>gs=[]∧D=Cls w [] [.obj b8 [.int .i64 gx5] 3,.sl v10 3 1 (l11.map I),.sl gv3 90 2 (gl4.map TE.row)]∧M19K9 go1 l11 gl4 gx5=some r) ?_ ?_)))
   ·refine sr (L.r 1 rfl (L.y rfl (Y.lenM (g:=TE.row) (l:=gl4) Tryz.underlying56 rfl (fun w hw=>As.at_ (hw.get (i:=3) rfl))) (L.r 1 rfl (ln (W.block (W.loopJ (fun m gs D=>∃ gx15,gs=[(0,gv3),(1,.func (.func 46) #[] #[pt b8 0]),(7,.int .i64 (gl4.length:Int)),(8,.int .i64 gx15)]∧D=Cls w [] [.obj b8 [.int .i64 gx5] 3,.sl gv3 90 2 (gl4.map TE.row),.sl v10 3 1 (l11.map I)]∧M19L3 gl4 gx5 go1 l11 m gx15=some r) ⟨0,rfl,rfl,h⟩ ⟨rfl,rfl,rfl,rfl,trivial⟩ (sI [2,3,0]) ?_))))))
    rintro m _ _ ⟨gx15,rfl,rfl,h⟩
    rcases m with _ | m
    ·rw [M19L3] at h;cases h
    rw [M19L3] at h
    generalize hg3:M19L3 gl4 gx5 go1 l11 m=go3 at h
    rw [M19L3B] at h
    refine sr (L.ite h rfl (Y.lss rfl rfl) (fun c28 h=>?_) (fun c28 h=>?_))
    ·refine ln (W.seq (W.condT rfl (W.skip (E.thenN (W.seq (W.block (sr (L.r 2 rfl (ln (W.seq ?_))))))))))
     refine W.region (L.r 3 rfl (L.m (V:=fun _=>el gv3 (gx15.toNat*2)) h rfl (Y.indexM (g:=TE.row) (l:=gl4) Tryz.underlying56 sz90 rfl rfl (fun w hw=>As.at_ (hw.get (i:=1) rfl))) (fun x29 ex29 h=>(L.y rfl (Y.loadEN (r:=[.int .i64 x29.From,.int .i64 x29.To]) ag90 sz90 rfl (fun w hw=>As.at_ (hw.get (i:=1) rfl)) (idx_map ex29) rfl) (L.callVJ (fun v D=>∃ gb16,v=.bool gb16∧D=Cls w [] [.obj b8 [.int .i64 gx5] 3,.sl gv3 90 2 (gl4.map TE.row),.sl v10 3 1 (l11.map I)]∧M19K10 go1 l11 gl4 gx5 gx15 go3 gb16=some r) rfl en46 rfl rfl Tryz.func46 rfl rfl rfl ?_ ?_)))))
     ·refine sr (L.box rfl rfl ?_)
      intro b31
      refine L.r 1 rfl (nsr (L.y rfl (Y.fieldP fd90_0 rfl) (L.y rfl (Y.loadP (i:=0) ag3 rfl rfl rfl) (L.y rfl (Y.loadP (i:=1) ag3 rfl rfl rfl) (L.ite h rfl (Y.eql rfl rfl) (fun c32 h=>?_) (fun c32 h=>?_))))))
      ·exact L.r 7 rfl (ln (W.ret (E.ret1 rfl rfl (fun w1 hw=>(⟨_,_,rfl,⟨true,rfl,rfl,h⟩,hw.s [1,2,3]⟩)))))
      refine L.r 1 rfl (L.take rfl (L.y rfl (Y.fieldP fd90_1 rfl) (L.take rfl (L.y rfl (Y.loadP (i:=0) ag3 rfl rfl rfl) (L.take rfl (L.y rfl (Y.loadP (i:=1) ag3 rfl rfl rfl) (L.take rfl (L.y rfl (Y.eql rfl rfl) (L.r 2 rfl (ln (W.ret (E.ret1 rfl rfl (fun w1 hw=>?_)))))))))))))
      exact ⟨_,_,rfl,⟨decide (x29.To=gx5),rfl,rfl,h⟩,hw.s [1,2,3]⟩
     rintro _ _ ⟨gb16,rfl,rfl,h⟩
     rw [M19K10] at h
     rcases gb16 with _ | _
     ·replace h:=iteF h
      exact ln (W.condF rfl (W.skip (E.blockN (E.thenN (W.region (L.m (V:=fun x30=>.int .i64 x30) h rfl (Y.addM rfl rfl) (fun x30 ex30 h=>(L.r 1 rfl (L.nil (E.aJ ⟨x30,rfl,rfl,by rw [hg3];exact h⟩ hI))))))))))
     replace h:=iteT h
     refine ln (W.condT rfl (sr (L.r 2 rfl (ln (W.ret (E.blockR (E.thenR (E.KLR (E.blockR (E.KSR ?_))))))))))
     exact E.ret1 rfl rfl (fun w1 hw=>(⟨_,_,rfl,⟨gx15,rfl,rfl,h⟩,hw⟩))
    exact ln (W.seq (W.condF rfl (W.exit (E.thenX (E.KLX (E.blockX (E.joinJ ⟨rfl,rfl,h⟩ trivial (sI [0,2,1]))))))))
   rintro _ _ ⟨rfl,rfl,h⟩
   rw [M19K9] at h
   exact sr (L.r 1 rfl (ln (W.ret (E.ret1 rfl rfl (fun w1 hw=>(⟨_,_,rfl,⟨(-1),rfl,rfl,h⟩,hw.s [0,2,1]⟩))))))
  rintro _ _ ⟨gx8,rfl,rfl,h⟩
  rw [M19K4] at h
  refine L.r 1 rfl (ln (W.seqJ (fun gs D=>gs=[(0,gv3),(1,.func (.func 46) #[] #[pt b8 0]),(5,.int .i64 gx8)]∧D=Cls w [] [.obj b8 [.int .i64 gx5] 3,.sl gv3 90 2 (gl4.map TE.row),.sl v10 3 1 (l11.map I)]∧M19K5 gx8 gx5 go1 l11 gl4=some r) ?_ ?_))
  ·refine sr (L.r 1 rfl (L.ite h rfl (Y.eql rfl rfl) (fun c27 h=>?_) (fun c27 h=>?_)))
   ·exact ln (W.condT rfl (sr (L.r 2 rfl (ln (W.ret (E.KSR (E.ret1 rfl rfl (fun w1 hw=>(⟨_,_,rfl,⟨gv3,gl4,rfl,rfl,h⟩,hw.s [2,1]⟩)))))))))
   exact ln (W.condF rfl (W.skip (E.jJ ⟨rfl,rfl,h⟩ hI)))
  rintro _ _ ⟨rfl,rfl,h⟩
  rw [M19K5] at h
  refine W.seqJ (fun gs D=>∃ gl9 gx10,gs=[(0,gv3),(5,.int .i64 gx10)]∧D=Cls w [] [.sl gv3 90 2 (gl9.map TE.row),.sl v10 3 1 (l11.map I)]∧M19K6 go1 l11 gl9 gx10=some r) ?_ ?_
  ·refine sr (L.r 1 rfl (L.m (V:=fun x16=>.int .i64 x16) h rfl (Y.addM rfl rfl) (fun x16 ex16 h=>(L.r 1 rfl (ln (W.block (W.loopJ (fun m gs D=>∃ gl11 gx12 gx13,gs=[(0,gv3),(1,.func (.func 46) #[] #[pt b8 0]),(5,.int .i64 gx12),(6,.int .i64 gx13)]∧D=Cls w [] [.obj b8 [.int .i64 gx5] 3,.sl gv3 90 2 (gl11.map TE.row),.sl v10 3 1 (l11.map I)]∧M19L2 gx5 go1 l11 m gl11 gx12 gx13=some r) ⟨gl4,gx8,x16,rfl,rfl,h⟩ ⟨rfl,rfl,rfl,rfl,trivial⟩ hI ?_)))))))
   rintro m _ _ ⟨gl11,gx12,gx13,rfl,rfl,h⟩
   rcases m with _ | m
   ·rw [M19L2] at h;cases h
   rw [M19L2] at h
   generalize hg2:M19L2 gx5 go1 l11 m=go2 at h
   rw [M19L2B] at h
   refine W.seqJ (fun gs D=>gs=[(0,gv3),(1,.func (.func 46) #[] #[pt b8 0]),(5,.int .i64 gx12),(6,.int .i64 gx13)]∧D=Cls w [] [.obj b8 [.int .i64 gx5] 3,.sl gv3 90 2 (gl11.map TE.row),.sl v10 3 1 (l11.map I)]∧M19K7 gl11 gx13 gx5 go2 gx12=some r) ?_ ?_
   ·refine sr (L.r 2 rfl (L.y rfl (Y.lenM (g:=TE.row) (l:=gl11) Tryz.underlying56 rfl (fun w hw=>As.at_ (hw.get (i:=1) rfl))) (L.ite h rfl (Y.lss rfl rfl) (fun c26 h=>?_) (fun c26 h=>?_))))
    ·exact ln (W.condT rfl (W.skip (E.jJ ⟨rfl,rfl,h⟩ hI)))
    exact ln (W.condF rfl (W.exit (E.KSX (E.KLX (E.blockX (E.jJ ⟨gl11,gx12,rfl,rfl,h⟩ (sI [1,2])))))))
   rintro _ _ ⟨rfl,rfl,h⟩
   rw [M19K7] at h
   refine W.seq (W.block (sr (L.r 2 rfl (L.m (V:=fun _=>el gv3 (gx13.toNat*2)) h rfl (Y.indexM (g:=TE.row) (l:=gl11) Tryz.underlying56 sz90 rfl rfl (fun w hw=>As.at_ (hw.get (i:=1) rfl))) (fun x17 ex17 h=>(L.y rfl (Y.loadEN (r:=[.int .i64 x17.From,.int .i64 x17.To]) ag90 sz90 rfl (fun w hw=>As.at_ (hw.get (i:=1) rfl)) (idx_map ex17) rfl) (L.alloc rfl ze90 ?_)))))))
   intro b18
   refine L.store (i:=0) (vs:=[.int .i64 x17.From,.int .i64 x17.To]) sz90 rfl rfl rfl rfl (by simp [Value.oneCell',Value.cells,st,pt,el]) rfl nb (nsr (L.r 1 rfl (L.y rfl (Y.loadPW (i:=0) ag90 sz90 rfl rfl rfl) (L.callVJ (fun v D=>∃ gb14,v=.bool gb14∧D=Cls w [] [.obj b18 [.int .i64 x17.From,.int .i64 x17.To] 90,.obj b8 [.int .i64 gx5] 3,.sl gv3 90 2 (gl11.map TE.row),.sl v10 3 1 (l11.map I)]∧M19K8 gx13 go2 gl11 gx12 x17 gb14=some r) rfl en46 rfl rfl Tryz.func46 rfl rfl rfl ?_ ?_))))
   ·refine sr (L.box rfl rfl ?_)
    intro b24
    refine L.r 1 rfl (nsr (L.y rfl (Y.fieldP fd90_0 rfl) (L.y rfl (Y.loadP (i:=0) ag3 rfl rfl rfl) (L.y rfl (Y.loadP (i:=2) ag3 rfl rfl rfl) (L.ite h rfl (Y.eql rfl rfl) (fun c25 h=>?_) (fun c25 h=>?_))))))
    ·exact L.r 7 rfl (ln (W.ret (E.ret1 rfl rfl (fun w1 hw=>(⟨_,_,rfl,⟨true,rfl,rfl,h⟩,hw.s [1,2,3,4]⟩)))))
    refine L.r 1 rfl (L.take rfl (L.y rfl (Y.fieldP fd90_1 rfl) (L.take rfl (L.y rfl (Y.loadP (i:=0) ag3 rfl rfl rfl) (L.take rfl (L.y rfl (Y.loadP (i:=2) ag3 rfl rfl rfl) (L.take rfl (L.y rfl (Y.eql rfl rfl) (L.r 2 rfl (ln (W.ret (E.ret1 rfl rfl (fun w1 hw=>?_)))))))))))))
    exact ⟨_,_,rfl,⟨decide (x17.To=gx5),rfl,rfl,h⟩,hw.s [1,2,3,4]⟩
   rintro _ _ ⟨gb14,rfl,rfl,h⟩
   rw [M19K8] at h
   rcases gb14 with _ | _
   ·replace h:=iteF h
    refine L.y rfl (Y.not rfl) (ln (W.condT rfl (sr (L.r 2 rfl (L.y rfl (Y.loadPW (i:=0) ag90 sz90 rfl rfl rfl) (L.m (V:=fun _=>el gv3 (gx12.toNat*2)) h rfl (Y.indexM (g:=TE.row) (l:=gl11) Tryz.underlying56 sz90 rfl rfl (fun w hw=>As.at_ (hw.get (i:=2) rfl))) (fun x19 ex19 h=>(L.storeSlM (q:=2) (row:=TE.row) (vs:=[.int .i64 x17.From,.int .i64 x17.To]) (j:=0) (u1:=x17) h sz90 rfl rfl rfl rfl rfl (all1 rfl (all1 rfl all0)) rfl ex19 rfl rfl ?_))))))))
    intro l20 el20 h
    exact nr (L.r 1 rfl (L.m (V:=fun x21=>.int .i64 x21) h rfl (Y.addM rfl rfl) (fun x21 ex21 h=>(L.r 1 rfl (L.nil (E.blockN (E.thenN (W.region (L.r 1 rfl (L.m (V:=fun x22=>.int .i64 x22) h rfl (Y.addM rfl rfl) (fun x22 ex22 h=>(L.r 1 rfl (L.nil (E.aJ ⟨l20,x21,x22,rfl,rfl,by rw [hg2];exact h⟩ (sI [1,2,3])))))))))))))))
   replace h:=iteT h
   exact L.y rfl (Y.not rfl) (ln (W.condF rfl (W.skip (E.blockN (E.thenN (W.region (L.r 1 rfl (L.m (V:=fun x23=>.int .i64 x23) h rfl (Y.addM rfl rfl) (fun x23 ex23 h=>(L.r 1 rfl (L.nil (E.aJ ⟨gl11,gx12,x23,rfl,rfl,by rw [hg2];exact h⟩ (sI [1,2,3])))))))))))))
  rintro _ _ ⟨gl9,gx10,rfl,rfl,h⟩
  rw [M19K6] at h
  refine sr (L.r 2 rfl (L.m (V:=fun _=>dropv gv3 gx10.toNat 2) h rfl (Y.dropM (g:=TE.row) Tryz.underlying56 sz90 rfl rfl (fun w hw=>As.at_ (hw.get (i:=0) rfl))) (fun l12 el12 h=>(L.clearM (i:=0) (g:=TE.row) (z0:=(⟨0,0⟩:TE)) (a:=gx10) h Tryz.underlying56 eL90 ze90 (fun u hu=>((plain_TEdge _):Plain ([(⟨0,0⟩:TE)].map TE.row)) _ (List.mem_cons_self ..) u hu) rfl rfl ?_))))
  intro l13 el13 h
  refine nsr (L.r 2 rfl ?_)
  obtain ⟨l14,el14,h⟩:=bind1S h
  exact L.cutM (i:=0) (g:=TE.row) el14 rfl Tryz.underlying56 sz90 rfl rfl rfl (fun v15=>(L.r 1 rfl (ln (W.ret (E.ret1 rfl rfl (fun w1 hw=>(⟨_,_,rfl,⟨v15,l14,rfl,rfl,h⟩,hw.s [1,0]⟩)))))))
 rintro gv6 _ ⟨_,gl7,rfl,rfl,h⟩
 rw [M19K3] at h
 exact L.r 1 rfl (L.nil (E.blockN (E.aJ ⟨v10,l11,gv6,gl7,rfl,rfl,by rw [hg1];exact h⟩ hI)))
set_option maxRecDepth 100000 in
set_option maxHeartbeats 8000000 in
theorem W21 (a0:(List Int)) (u0:Value) (w:World) (r:Int) (h:M21 a0=some r) (hA0:At w u0 1 (a0.map I)):Does Tryz.prog 21 [u0] w fun u m=>u=.int .i64 r∧m=[]:=by
 rw [M21] at h
 refine body (n:=25) Tryz.func21 rfl rfl rfl (Cls.refl w) (sr (L.r 1 rfl (ln (W.seqJ (fun gs D=>gs=[(0,u0)]∧D=Cls w [] []∧M21K1 a0=some r) ?_ ?_))))
 ·refine sr (L.r 1 rfl (L.y rfl (Y.lenM (g:=I) (l:=a0) Tryz.underlying23 rfl (fun w' hw=>hA0.cls0 hw)) (L.ite h rfl (Y.lss rfl rfl) (fun c5 h=>?_) (fun c5 h=>?_))))
  ·refine ln (W.condT rfl (W.region ?_))
   cases h
  exact ln (W.condF rfl (W.skip (E.jJ ⟨rfl,rfl,h⟩ hI)))
 rintro _ _ ⟨rfl,rfl,h⟩
 rw [M21K1] at h
 refine sr (L.r 1 rfl (L.m (V:=fun _=>el u0 ((0:Int).toNat*1)) h rfl (Y.indexM (g:=I) (l:=a0) Tryz.underlying23 sz3 rfl rfl (fun w' hw=>hA0.cls0 hw)) (fun x1 ex1 h=>(L.y rfl (Y.loadE1 (u:=.int .i64 x1) ag3 rfl (fun w' hw=>hA0.cls0 hw) (idx_map ex1)) (L.r 1 rfl (ln (W.seqJ (fun gs D=>∃ gx1,gs=[(3,.int .i64 gx1)]∧D=Cls w [] []∧M21K2 gx1=some r) ?_ ?_)))))))
 ·refine sr (L.r 1 rfl (ln (W.block (W.loopJ (fun m gs D=>∃ gx2 gx3,gs=[(0,u0),(3,.int .i64 gx2),(4,.int .i64 gx3)]∧D=Cls w [] []∧M21L1 a0 m gx2 gx3=some r) ⟨x1,1,rfl,rfl,h⟩ ⟨rfl,rfl,rfl,trivial⟩ hI ?_))))
  rintro m _ _ ⟨gx2,gx3,rfl,rfl,h⟩
  rcases m with _ | m
  ·rw [M21L1] at h;cases h
  rw [M21L1] at h
  generalize hg1:M21L1 a0 m=go1 at h
  rw [M21L1B] at h
  refine W.seq (sr (L.r 2 rfl (L.y rfl (Y.lenM (g:=I) (l:=a0) Tryz.underlying23 rfl (fun w' hw=>hA0.cls0 hw)) (L.ite h rfl (Y.lss rfl rfl) (fun c2 h=>?_) (fun c2 h=>?_)))))
  ·refine ln (W.condT rfl (W.skip (E.thenN (W.seq (W.block (W.region (L.r 3 rfl (L.m (V:=fun _=>el u0 (gx3.toNat*1)) h rfl (Y.indexM (g:=I) (l:=a0) Tryz.underlying23 sz3 rfl rfl (fun w' hw=>hA0.cls0 hw)) (fun x3 ex3 h=>(L.y rfl (Y.loadE1 (u:=.int .i64 x3) ag3 rfl (fun w' hw=>hA0.cls0 hw) (idx_map ex3)) (L.y rfl (Y.max2 rfl rfl) (L.r 1 rfl (L.nil ?_)))))))))))))
   exact E.blockN (E.thenN (W.region (L.r 1 rfl (L.m (V:=fun x4=>.int .i64 x4) h rfl (Y.addM rfl rfl) (fun x4 ex4 h=>(L.r 1 rfl (L.nil (E.aJ ⟨(max gx2 x3),x4,rfl,rfl,by rw [hg1];exact h⟩ hI))))))))
  exact ln (W.condF rfl (W.exit (E.thenX (E.KLX (E.blockX (E.jJ ⟨gx2,rfl,rfl,h⟩ hI))))))
 rintro _ _ ⟨gx1,rfl,rfl,h⟩
 rw [M21K2] at h
 refine sr (L.r 2 rfl (ln (W.ret (E.ret1 rfl rfl (fun w1 hw=>?_)))))
 cases h
 exact ⟨_,_,rfl,⟨rfl,rfl⟩,hw⟩
end Go.Proofs.YtlecphianicdhaaGreat
