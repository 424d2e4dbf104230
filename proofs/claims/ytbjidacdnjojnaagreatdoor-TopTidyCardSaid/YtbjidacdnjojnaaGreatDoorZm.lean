import Derived.Test.YtbjidacdnjojnaaGreatDoorZl
import Derived.Test.YtbjidacdnjojnaaGreatDoorZa
import Derived.SizedLaws
import Derived.Test.YtbjidacdnjojnaaGreatDoorRows
import Derived.Test.YtbjidacdnjojnaaGreatDoorChecked
import Derived.WalkKit
import Derived.ProofKit
import Derived.OpenShut
set_option linter.unusedVariables false
set_option linter.unusedSimpArgs false
section
namespace Go.Proofs.YtbjidacdnjojnaaGreatDoor
open Go.S
section
variable {N z:Nat} {p s a2:Int} {a3:List Bool}
theorem Duo.fuse {D:List TDisk} {G:List TLog} {d:TDisk} {half gc go:Int} {lc lo:TLog} {tc to_:SS} {gen:Int} {sure:SS} {P:qn→Prop} (h:Duo N z D G p d half gc go lc lo tc to_ gen sure P) {l:Int} (h0 : -1≤l) (h1:l≤9223372036854775807):Duo N z (D.set p.toNat ⟨d.safe_,d.seen_,d.late_,l⟩) G p ⟨d.safe_,d.seen_,d.late_,l⟩ half gc go lc lo tc to_ gen sure P:=by
 obtain ⟨mc,Rc,hc,hc2,hc3⟩:=h.c
 obtain ⟨mo,Ro,ho⟩:=h.o
 have hk:=h.hk
 exact ⟨qp h.hp,⟨hk.s,hk.t,hk.n,hk.s64,hk.t64,hk.late,h0,h1,hk.ll⟩,h.hn,h.hh,h.hgc,h.hgo,h.hne,⟨mc,Rc,⟨hc.v,hc.seen,hc.a0,hc.d,hc.f,hc.z,hc.at_,hc.q,hc.fell⟩,hc2,hc3⟩,⟨mo,Ro,⟨ho.v,ho.seen,ho.a0,ho.d,ho.f,ho.z,ho.at_,ho.q,ho.fell⟩⟩,h.hll,h.ic,h.io,h.g0,h.g1,h.gE⟩
theorem qhb {D:List TDisk} {T:List TStore} {G:List TLog} {sure:SS} (h:qju N z D T G p sure) (hs:s < T.length) (hz:z=N / 2) (hz2:2≤z) (hsl:sure.length=20):qg1 p a3 D s T G sure=some true:=by
 obtain ⟨D1,e1,h1⟩:=qiA h hz hz2 hsl a3
 rw [qg1,e1,qa,xn hs,qa]
 rcases h1 with ⟨D',G',g⟩ | ⟨D',S',G',g,gv,gg⟩
 ·rw [g,qN,if_pos rfl]
 ·rw [g,qN,if_neg (by decide),if_pos rfl,if_pos (by omega),qs hsl,qa,gv,qa,qs hsl,qa,qa,decide_eq_true rfl]
theorem qdr {D:List TDisk} {T:List TStore} {G:List TLog} {X:List Ttx} {sure:SS} {S:TStore} {d:TDisk} {gc go:Int} {lc lo:TLog} {tc to_:SS} (h1:idx T s=some S) (h2:StOk S X) (h4:VOk S sure) (h6:za 2 S.logs_ S.half_=some gc) (h7:za 2 S.logs_ (1 - S.half_)=some go) (h9:Duo N z D G p d S.half_ gc go lc lo tc to_ S.gen_ sure (OtherS S.half_ S.gen_)) (a1:∀ x∈T,TStore.ok100 G.length x) (hG:∀ x∈G,x.d_ < D.length) (hz:z=N / 2) (hz2:2≤z):qit s T G sure a2 p a3 D=some true:=by
 have hsl:sure.length=20:=by rw [h4];simp [h2.it]
 obtain ⟨D',h',g',dn',G',e,q1,q2,q3,q4,q5,q6⟩:=qdn h1 h2 h4 h6 h7 h9 hG
 have hv:M11 s (T.set s.toNat (turned S h' g' dn'))=some sure:=by
  rw [h4]
  exact kE (S:=turned S h' g' dn') (qp h1) h2.lg h2.it fun l hl=>⟨(h2.vs l hl).ne,by have:=(h2.vs l hl).n;omega⟩
 have hgood:qju N z D' (T.set s.toNat (turned S h' g' dn')) G' p sure:=by
  refine ⟨?_,by rw [q4];exact zF a1 (a1 S (zW h1))⟩
  rcases q6 with ⟨d',gc',go',lc',lo',tc',to',r1,r2,r3,r4⟩ | ⟨r1,d',r2,r3,r4⟩
  ·exact ⟨d',r4.hp,r4.hk,r4.recAll fun m hm=>hm.ok sure⟩
  ·exact ⟨d',r2,r3,r4⟩
 have hk3:=qhb (a3:=a3) (s:=s) hgood (by have:=(qm h1).2.1;simp;omega) hz hz2 hsl
 rw [qit,q1,zI,qs hsl,qa,hv,qa,qs hsl,qa,qa,if_neg (by simp)]
 by_cases c1:a2 < 0
 ·rw [if_pos c1]
  by_cases c2:e≠0
  ·rw [if_pos c2]
   by_cases c3:e≠8
   ·have e13:e=13:=by
     rcases q2 with q | q | q
     ·exact absurd q c2
     ·exact absurd q c3
     ·exact q
    rw [if_pos c3,if_neg fun h=>h e13];exact hk3
   ·rw [if_neg c3];exact hk3
  ·rw [if_neg c2];exact hk3
 ·rw [if_neg c1];exact hk3
theorem qfd {D:List TDisk} {T:List TStore} {G:List TLog} {X:List Ttx} {sure maybe_:SS} {f:Bool} {wrote:qeG} {i:Nat} (h:Inv N z D T G X p s sure wrote i) (hz:z=N / 2) (hz2:2≤z) (ha:a2≤9223372036854775807):qjh a2 p s a3 D T G X sure maybe_ f wrote=some true:=by
 obtain ⟨S,d,gc,go,lc,lo,tc,to_,h1,h2,h3,h4,h5,h6,h7,h8,h9,h10⟩:=h.ex
 rw [qjh]
 split
 ·rw [M12,h9.hp,qa,qu h9.hp,qa,qa,show max a2 (-1)=a2 by omega]
  exact qdr h1 h2 h4 h6 h7 (h9.fuse (by omega) ha) h.a1 (fun x hx=>by rw [List.length_set];exact h.a3 x hx) hz hz2
 ·exact qdr h1 h2 h4 h6 h7 h9 h.a1 h.a3 hz hz2
section
variable {go:Go2} {D:List TDisk} {T:List TStore} {G:List TLog} {X:List Ttx} {sure maybe_:SS} {f:Bool} {wrote:qeG} {i:Nat}
theorem qdq {e:Int} {v:SS} (hi:i≤5000000000000) (hm:maybe_.length=20) (hv:v.length=20)
  (hgo:∀ mb fl,mb.length=20→go ((i+1:Nat):Int) D T G X (if e=0 then v else sure) mb fl wrote=some true) :
  qaU e (i:Int) go D T G X wrote maybe_ f sure v=some true:=by
 have k10:∀ mb fl,mb.length=20→kj (i:Int) go e D T G X wrote (if e=0 then v else sure) mb fl=some true:=by
  intro mb fl h
  rw [kj,qbN,qS i (by omega),qa]
  exact hgo mb fl h
 rw [qaU]
 by_cases c0:e=0
 ·rw [if_pos c0,qs hv,qa,qa]
  rw [if_pos c0] at k10
  exact k10 _ _ hm
 ·rw [if_neg c0] at k10
  rw [if_neg c0]
  have kk:=k10 _ f hm
  by_cases d1:e=12
  ·rw [if_pos d1];exact kk
  rw [if_neg d1]
  by_cases d2:e=6
  ·rw [if_pos d2];exact kk
  rw [if_neg d2]
  by_cases d3:e=8
  ·rw [if_pos d3];exact kk
  rw [if_neg d3]
  by_cases d4:e=2
  ·rw [if_pos d4];exact kk
  rw [if_neg d4]
  by_cases d5:e=1
  ·rw [if_pos d5];exact kk
  rw [if_neg d5,qs hm,qa]
  by_cases d6:f=true
  ·rw [if_pos d6];exact kk
  ·rw [if_neg d6,qs hv,qa,qa]
   exact k10 _ _ hv
theorem qha {e:Int}:∀ (n:Nat) (m:Pairs) (v:SS),m.length < n→MOk m→v.length=20→qaU e (i:Int) go D T G X wrote maybe_ f sure (xg v m)=some true→qgh e (i:Int) go D T G X wrote maybe_ f sure n m v=some true:=by
 intro n
 induction n with
 | zero=>intro m v h;exact absurd h (Nat.not_lt_zero _)
 | succ n ih =>
  intro m v hn hm hv hk
  rw [qgh,qh5]
  unfold qjL
  by_cases c:m=[]
  ·subst c
   rw [qhq]
   exact hk
  ·refine qiI c fun j x hx=>?_
   have hxm:=List.mem_of_getElem? hx
   obtain ⟨h0,h1⟩:=hm.k x hxm
   obtain ⟨y,hy1,hy2⟩:=jL hv h0 h1
   show (qb (za 20 v x.1) fun _=>qb (upd v x.1 x.2) fun l171=>qgh e (i:Int) go D T G X wrote maybe_ f sure n (m.eraseIdx j) l171)=some true
   rw [hy1,qa,qu hy2,qa]
   have hj:=(List.getElem?_eq_some_iff.1 hx).1
   refine ih _ _ ?_ (hm.erase j) (by simpa using hv) (by rw [vC m v j x hm hx];exact hk)
   rw [List.length_eraseIdx_of_lt hj]
   omega
theorem qdp (x:TDeed) (h:Inv N z D T G X p s sure wrote i) (hi:i≤5000000000000) (hm:maybe_.length=20)
  (hgo:∀ D T G X sure mb fl wrote,Inv N z D T G X p s sure wrote (i+1)→mb.length=20→go ((i+1:Nat):Int) D T G X sure mb fl wrote=some true) (b:Bool) (hb:b=true↔x.Wish.Kind=1) :
  qis s x T X (i:Int) go D G sure maybe_ f wrote b=some true:=by
 have k3:∀ e t D T G X sure mb fl wrote,Inv N z D T G X p s sure wrote (i+1)→mb.length=20→qbN (i:Int) go e t D T G X sure mb fl wrote=some true:=by
  intro e t D T G X sure mb fl wrote h1 h2
  rw [qbN,qS i (by omega),qa]
  exact hgo _ _ _ _ _ _ _ _ h1 h2
 have k8:∀ b,qip s x D T X G sure wrote (i:Int) go maybe_ f b=some true:=by
  intro b
  rw [qip]
  cases b with
  | true =>
   rw [if_pos rfl]
   obtain ⟨D',T',X',G',e,g,g0,g1⟩:=qcK h hi x.Wish.Tx
   have hsl:=h.sl
   rw [g,qN,qs hsl,qa,qs (by simp),qa,qa]
   cases hw:ze wrote x.Wish.Tx with
   | none =>
    rw [qdK,qy,qh7,qh6]
    refine qdq hi hm hsl fun mb fl hmb=>?_
    by_cases c:e=0
    ·obtain ⟨m,hm',_⟩:=g0 c
     rw [hw] at hm';cases hm'
    ·rw [if_neg c];exact hgo _ _ _ _ _ _ _ _ (g1 c) hmb
   | some m =>
    have hmk:=h.wk _ m hw
    rw [qdJ]
    refine qha big m sure ?_ hmk hsl ?_
    ·have:=jr 20 (m.map (·.1)) hmk.n (fun y hy=>by
      obtain ⟨q,hq,rfl⟩:=List.mem_map.1 hy
      exact hmk.k q hq)
     rw [List.length_map] at this
     rw [qy];omega
    ·refine qdq hi hm (by rw [xI];exact hsl) fun mb fl hmb=>?_
     by_cases c:e=0
     ·obtain ⟨m',hm',hinv⟩:=g0 c
      rw [hw,Option.some.injEq] at hm'
      subst hm'
      rw [if_pos c];exact hgo _ _ _ _ _ _ _ _ hinv hmb
     ·rw [if_neg c];exact hgo _ _ _ _ _ _ _ _ (g1 c) hmb
  | false =>
   rw [if_neg (by simp)]
   split
   ·obtain ⟨T',e,g,g1⟩:=qd7 h x.Wish.Tx
    rw [g,qg]
    exact k3 _ _ _ _ _ _ _ _ _ _ g1 hm
   ·split
    ·obtain ⟨D',T',G',e,g,g1⟩:=qfD h
     rw [g,zI]
     exact k3 _ _ _ _ _ _ _ _ _ _ g1 hm
    ·rw [qjt]
     exact k3 _ _ _ _ _ _ _ _ _ _ h.more hm
 have k7:∀ b,qiq s x T X wrote (i:Int) go D G sure maybe_ f b=some true:=by
  intro b
  rw [qiq]
  cases b with
  | true =>
   rw [if_pos rfl]
   obtain ⟨X',e,g,g0,g1⟩:=qd5 h x.Wish.Tx x.Wish.Item x.Wish.Text
   rw [g,qg]
   by_cases c:e=0
   ·obtain ⟨m,hm',hinv⟩:=g0 c
    rw [if_pos c,hm',qa]
    exact k3 _ _ _ _ _ _ _ _ _ _ hinv hm
   ·rw [if_neg c]
    exact k3 _ _ _ _ _ _ _ _ _ _ (g1 c) hm
  | false =>
   rw [if_neg (by simp)]
   split <;> exact k8 _
 have k6:∀ b,qir s x T X (i:Int) go D G sure maybe_ f wrote b=some true:=by
  intro b
  rw [qir]
  cases b with
  | true =>
   rw [if_pos rfl]
   obtain ⟨X',t,e,g,g1⟩:=qfF h x.Wish.Tx x.Wish.Item
   rw [g,ql]
   exact k3 _ _ _ _ _ _ _ _ _ _ g1 hm
  | false =>
   rw [if_neg (by simp)]
   split <;> exact k7 _
 rw [qis]
 cases b with
 | true =>
  rw [if_pos rfl]
  obtain ⟨T',X',e,g,g0,g1⟩:=qd6 h x.Wish.Tx
  rw [g,ql]
  by_cases c:e=0
  ·rw [if_pos c];exact k3 _ _ _ _ _ _ _ _ _ _ (g0 c) hm
  ·rw [if_neg c];exact k3 _ _ _ _ _ _ _ _ _ _ (g1 c) hm
 | false =>
  rw [if_neg (by simp)]
  split <;> exact k6 _
end
theorem qcs (hz:z=N / 2) (hz2:2≤z) (ha:a2≤9223372036854775807) (l:List TDeed) (hl:l.length≤5000000000000):∀ (r i:Nat),i+r=l.length→∀ n,r < n→∀ D T G X sure mb f wrote,Inv N z D T G X p s sure wrote i→mb.length=20→qe6 l s a2 p a3 n (i:Int) D T G X sure mb f wrote=some true:=by
 intro r
 induction r with
 | zero =>
  intro i hi n hn D T G X sure mb f wrote h hm
  obtain ⟨n,rfl⟩:=Nat.exists_eq_add_one.2 hn
  rw [qe6,qgi,if_neg (by omega)]
  exact qfd h hz hz2 ha
 | succ r ih =>
  intro i hi n hn D T G X sure mb f wrote h hm
  obtain ⟨n,rfl⟩:=Nat.exists_eq_add_one.2 (show 0 < n by omega)
  have h1:i < l.length:=by omega
  have hgo:∀ D T G X sure mb fl wrote,Inv N z D T G X p s sure wrote (i+1)→mb.length=20→qe6 l s a2 p a3 n ((i+1:Nat):Int) D T G X sure mb fl wrote=some true:=fun D T G X sure mb fl wrote h hm=>ih (i+1) (by omega) n (by omega) D T G X sure mb fl wrote h hm
  rw [qe6,qgi,if_pos (by omega),qM h1,qa]
  split
  ·split
   ·rename_i c
    exact qdp l[i] h (by omega) hm hgo true (by simp [c])
   ·rename_i c
    exact qdp l[i] h (by omega) hm hgo false (by simp [c])
  ·rw [qS i (by omega),qa]
   exact hgo _ _ _ _ _ _ _ _ h.more hm
end
theorem qdm (n:Int) (l:List TDeed) (fuse:Int) (keep:List Bool) (hl:l.length≤5000000000000) (ha:fuse≤9223372036854775807):M4 n l fuse keep=some true:=by
 obtain ⟨D,T,X,G,hw,a1,a2,a3⟩:=qfa
 rw [M4,hw,qN,if_pos rfl]
 rcases qdL (X:=X) n a1 a2 a3 with ⟨l1,l2,l3,x,y,g⟩ | ⟨N,z,D',T',G',p,s,g,hz,hz2,h⟩
 ·rw [g,vV,if_neg (by simp)]
 ·rw [g,vV,if_pos rfl]
  exact qcs hz hz2 ha l hl l.length 0 (by omega) big (by rw [qy];omega) D' T' G' X _ _ false [] h (by simp)
end Go.Proofs.YtbjidacdnjojnaaGreatDoor
end
section
namespace Go.S
open Go.ChangeShapes Go.WideShapes Go.ChangeAt Go.RowKit
def Rz (P:Program) (w:World) (t:TypeId) (cs:List Value):Prop :=
 ∃ (H:Type) (enc:TypeId×Value→H) (fuel:Nat) (held:Bool) (base:Nat) (x:DataW H×List MemPlace),DataW.trod enc P w base (fun _=>true) held fuel t cs=some x∧∀ n∈x.1.weights P t,n≤reachBytes
section
variable {P:Program} {w:World} {t:TypeId} {cs:List Value}
theorem Rz.rd (h:Rz P w t cs):Rd P w t cs:=by
 obtain ⟨H,enc,fuel,held,base,x,h,_⟩:=h
 exact ⟨H,enc,fuel,held,base,x,h⟩
theorem Rz.of {H:Type} {enc:TypeId×Value→H} {v:Value} {d:DataW H} {ps:List MemPlace} {ts:List TypeId} {ds:List (DataW H)} (h:DataW.Trod enc P w 0 (fun _=>true) true t v d ps) (hz:(DataW.weightsEach P ts ds).all (·≤reachBytes)=true) (j:Nat) (ht:ts[j]?=some t) (hd:ds[j]?=some d):Rz P w t v.cells.toList:=by
 obtain ⟨fuel,hf⟩:=h
 refine ⟨H,enc,fuel,true,0,_,hf,fun n hn=>?_⟩
 have:=List.all_eq_true.1 hz n (DataW.weights_mem_each ht hd n hn)
 simpa using this
theorem kC {H:Type} {e:TypeId}:∀ {l:List (DataW H)} {d:DataW H},d∈l→∀ n∈d.weights P e,n∈DataW.weightsAll P e l
 | d0 :: l,d,h,n,hn=>by
  simp only [DataW.weightsAll,List.mem_append]
  rcases List.mem_cons.1 h with rfl | h
  ·exact Or.inl hn
  ·exact Or.inr (kC h n hn)
theorem Rz.str (ht:P.underlying t=some .string) (h:Rz P w t cs):∃ l,cs=[st l]∧l.length≤reachBytes:=by
 obtain ⟨H,enc,fuel,held,base,x,h,hz⟩:=h
 obtain ⟨s,h1,h2,_⟩:=DataW.trod_string ht h
 refine ⟨s.data.toList,by rw [h1];rfl,hz _ ?_⟩
 rw [h2]
 simp [DataW.weights]
theorem Rz.slice {e:TypeId} {k:Nat} (ht:P.underlying t=some (.slice e)) (hk:P.cellsOf e=k) (h:Rz P w t cs):∃ v rows,cs=[v]∧At w v k rows∧(∀ r∈rows,Rz P w e r)∧rows.length*P.bytesOf e≤reachBytes:=by
 subst hk
 obtain ⟨H,enc,fuel,held,base,x,h,hz⟩:=h
 rcases Go.Deep.open_slice ht h with ⟨rfl,_⟩ | ⟨a,len,cap,m,n,D,Pl,rfl,hb,hl,hm,hmm,hx,hi⟩
 ·exact ⟨_,[],rfl,At.nil w _,by simp,by simp⟩
 ·have hm':m=cap:=by simpa using hmm
  subst hm'
  rw [hx] at hz
  simp only [DataW.weights,ht] at hz
  have hrow:∀ i:Fin len,∃ cs',w.cells? base (a.add (i.val*P.cellsOf e)) (P.cellsOf e)=some cs'∧Rz P w e cs':=fun i=>by
   obtain ⟨cs',h1,h2⟩:=hi i.val (by omega)
   refine ⟨cs',h1,H,enc,n,held,base,_,h2,fun q hq=>hz q ?_⟩
   refine List.mem_cons_of_mem _ (List.mem_append_left _ (kC (d:=D i.val) ?_ q hq))
   exact List.mem_map.2 ⟨i.val,List.mem_range.2 i.isLt,rfl⟩
  let rows:=List.ofFn fun i:Fin len=>Classical.choose (hrow i)
  have hlen:rows.length=len:=List.length_ofFn
  have hget:∀ (i:Nat) (r:List Value),rows[i]?=some r→w.cells? base (a.add (i*P.cellsOf e)) (P.cellsOf e)=some r∧Rz P w e r:=by
   intro i r hr
   obtain ⟨hlt,he⟩:=List.getElem?_eq_some_iff.1 hr
   have hil:i < len:=by omega
   have hs:=Classical.choose_spec (hrow ⟨i,hil⟩)
   have:r=Classical.choose (hrow ⟨i,hil⟩):=by rw [← he];simp [rows]
   rw [this];exact hs
  refine ⟨_,rows,rfl,⟨.inr ⟨a,m,by rw [hlen],by omega,hm⟩,fun r hr=>?_,fun i r j x hr hx=>?_⟩,fun r hr=>?_,?_⟩
  ·obtain ⟨i,hi'⟩:=List.getElem?_of_mem hr
   exact (World.cells?_some (hget i r hi').1).2.1
  ·obtain ⟨_,h2,h3⟩:=World.cells?_some (hget i r hr).1
   have hj:=(List.getElem?_eq_some_iff.1 hx).1
   rw [← add_add]
   exact (h3 j (by omega)).trans hx
  ·obtain ⟨i,hi'⟩:=List.getElem?_of_mem hr
   exact (hget i r hi').2
  ·have:=hz _ (List.mem_cons_self ..)
   simp only [List.length_map,List.length_range] at this
   rw [hlen]
   refine Nat.le_trans (Nat.mul_le_mul_right _ ?_) this
   omega
theorem Rz.fld {fs:Array Field} (ht:P.underlying t=some (.struct fs)) (h:Rz P w t cs) (i:Nat) (u:TypeId) (o c:Nat) (hi:(fs[i]?).map (fun f=>(f.type,f.offset))=some (u,o)) (hc:P.cellsOf u=c):Rz P w u ((cs.drop o).take c):=by
 cases hf:fs[i]? with
 | none=>rw [hf] at hi;cases hi
 | some f =>
  rw [hf] at hi
  simp only [Option.map_some,Option.some.injEq,Prod.mk.injEq] at hi
  obtain ⟨rfl,rfl⟩:=hi
  subst hc
  obtain ⟨H,enc,fuel,held,base,x,h,hz⟩:=h
  obtain ⟨xs,n,_,hxx,hl,hx,hfs⟩:=DataW.trod_struct ht h
  have h1:=hfs i f hf
  have hil:i < xs.length:=by rw [hx];exact (Array.getElem?_eq_some_iff.1 hf).1
  rw [List.getElem?_eq_getElem hil] at h1
  refine ⟨H,enc,n,held,base,_,h1,fun q hq=>hz q ?_⟩
  rw [hxx]
  simp only [DataW.weights,ht]
  refine DataW.weights_mem_each (j:=i) (t:=f.type) (d:=xs[i].1) ?_ ?_ q hq
  ·rw [List.getElem?_map]
   simp [hf]
  ·rw [List.getElem?_map,List.getElem?_eq_getElem hil]
   rfl
end
end Go.S
end
section
namespace Go.Proofs.YtbjidacdnjojnaaGreatDoor.topTidy
open Go.ChangeShapes Go.WideShapes Go.ChangeAt Go.RowKit Go.Proofs.YtbjidacdnjojnaaGreatDoor
set_option maxRecDepth 100000
set_option maxHeartbeats 8000000
theorem j1:OpenClaim.wf (OpenSpec.ofChange Rows.topTidySpec) Rows.topTidyRow=true:=by kernel_rfl
theorem j2:laidOutB Tryz.pinned.checked.prog=true:=by kernel_rfl
theorem j3:mapsRowed Tryz.pinned.checked.prog=true:=by kernel_rfl
theorem j4:(Tryz.f4.params.all fun x=>Tryz.pinned.checked.prog.readableRec x)=true:=by kernel_rfl
theorem j5:namedTie Tryz.pinned.checked.prog Rows.topTidyRow.named Rows.topTidySpec.vars=true:=by kernel_rfl
theorem j6:(Rows.topTidyRow.stops == [])=true:=by kernel_rfl
theorem j7:(Tryz.pinned.checked.prog.stops == [])=true:=by kernel_rfl
theorem j8:(Rows.topTidyRow.knobs == [])=true:=by kernel_rfl
theorem j9:(Tryz.pinned.checked.prog.stopKnobs == [])=true:=by kernel_rfl
theorem j10:(Rows.topTidyRow.inPlace == Tryz.pinned.checked.prog.inPlace 4)=true:=by kernel_rfl
theorem j11:(Rows.topTidyRow.unfollowed == Tryz.pinned.checked.prog.unfollowed 4)=true:=by kernel_rfl
theorem j12:(Rows.topTidyRow.recurses == Tryz.pinned.checked.prog.recurses 4)=true:=by kernel_rfl
theorem j13:(Rows.topTidyRow.named == Tryz.pinned.checked.prog.varsNamed 4)=true:=by kernel_rfl
theorem j14:(Rows.topTidyRow.maps == (Tryz.f4.params.toList++Rows.topTidySpec.plain.varTypes Tryz.pinned.checked.prog).any fun x=>Tryz.pinned.checked.prog.mapsRec x)=true:=by kernel_rfl
theorem j15:(Rows.topTidyRow.ifaces == (Tryz.f4.params.toList++Rows.topTidySpec.plain.varTypes Tryz.pinned.checked.prog).any fun x=>Tryz.pinned.checked.prog.ifacesRec x)=true:=by kernel_rfl
theorem j16:(Rows.topTidyRow.mapsOut == Tryz.pinned.checked.prog.mapsAmong Tryz.f4.resultTypes.toList)=true:=by kernel_rfl
theorem j17:(Rows.topTidyRow.loops == (Tryz.f4.params.toList++Rows.topTidySpec.plain.varTypes Tryz.pinned.checked.prog).any fun x=>Tryz.pinned.checked.prog.loopsFrom x)=true:=by kernel_rfl
theorem j18:(Rows.topTidyRow.wideKeys == (Tryz.f4.params.toList++Rows.topTidySpec.plain.varTypes Tryz.pinned.checked.prog++Tryz.f4.resultTypes.toList).any fun x=>Tryz.pinned.checked.prog.wideKeysFrom x)=true:=by kernel_rfl
theorem j19:(Rows.topTidySpec.vars.all fun x=>Tryz.pinned.checked.prog.varReadable x)=true:=by kernel_rfl
theorem j20:(Tryz.f4.resultTypes.all fun t=>Tryz.pinned.checked.prog.readableRec t && decide (t < Tryz.pinned.checked.prog.types.size))=true:=by kernel_rfl
theorem j21:(Rows.topTidyRow.ifacesOut == Tryz.f4.resultTypes.toList.any fun x=>Tryz.pinned.checked.prog.ifacesRec x)=true:=by kernel_rfl
theorem j22:(Rows.topTidyRow.loopsOut == Tryz.f4.resultTypes.toList.any fun x=>Tryz.pinned.checked.prog.loopsFrom x)=true:=by kernel_rfl
theorem j23:(Rows.topTidyRow.plainKeys == Tryz.pinned.checked.prog.plainKeys)=true:=by kernel_rfl
theorem j24:Rows.topTidyRow.shortTexts.isNone=true:=by kernel_rfl
theorem j25:Tryz.pinned.checked.prog.stopsHeard=true:=by kernel_rfl
theorem j26:Tryz.pinned.checked.prog.mayEnter=true:=by kernel_rfl
theorem j27:(Rows.topTidyRow.lifted == Tryz.pinned.checked.prog.liftsFinal)=true:=by kernel_rfl
theorem j28:(Tryz.pinned.checked.prog.make == some Rows.topTidyRow.make)=true:=by kernel_rfl
theorem j29:(Rows.topTidyRow.kinds == (if Rows.topTidyRow.domain.isEmpty then [] else Tryz.f4.params.toList.map fun t=>match Tryz.pinned.checked.prog.underlying t with | some (.int k)=>some k | _=>none))=true:=by kernel_rfl
theorem j30:(Rows.topTidyRow.pinned == Rows.topTidyRow.pinnedBy)=true:=by kernel_rfl
theorem j31:(Rows.topTidyRow.veiled == (Tryz.f4.params.toList++Rows.topTidySpec.plain.varTypes Tryz.pinned.checked.prog++Tryz.f4.resultTypes.toList).any fun x=>Tryz.pinned.checked.prog.veiledRec x)=true:=by kernel_rfl
theorem j32:Rows.topTidyRow.veiledFits Tryz.pinned.checked.prog Tryz.f4.params.toList (Tryz.f4.params.toList++Rows.topTidySpec.plain.varTypes Tryz.pinned.checked.prog++Tryz.f4.resultTypes.toList)=true:=by kernel_rfl
theorem closed:joinedFacts Tryz.pinned.checked.prog 4 Tryz.f4 Rows.topTidySpec Rows.topTidyRow=true:=by
 unfold joinedFacts
 simp only [Bool.and_eq_true]
 exact ⟨⟨⟨⟨⟨⟨⟨⟨⟨⟨⟨⟨⟨⟨⟨⟨⟨⟨⟨⟨⟨⟨⟨⟨⟨⟨⟨⟨⟨⟨⟨j1,j2⟩,j3⟩,j4⟩,j5⟩,j6⟩,j7⟩,j8⟩,j9⟩,j10⟩,j11⟩,j12⟩,j13⟩,j14⟩,j15⟩,j16⟩,j17⟩,j18⟩,j19⟩,j20⟩,j21⟩,j22⟩,j23⟩,j24⟩,j25⟩,j26⟩,j27⟩,j28⟩,j29⟩,j30⟩,j31⟩,j32⟩
end Go.Proofs.YtbjidacdnjojnaaGreatDoor.topTidy
end
