import Derived.Test.YtloiiohoelhldaaGreatDoorZq
import Derived.Test.YtloiiohoelhldaaGreatDoorZa
import Derived.SizedLaws
import Derived.Test.YtloiiohoelhldaaGreatDoorRows
import Derived.Test.YtloiiohoelhldaaGreatDoorChecked
import Derived.WalkKit
import Derived.ProofKit
import Derived.OpenShut
set_option linter.unusedVariables false
set_option linter.unusedSimpArgs false
section
namespace Go.Proofs.YtloiiohoelhldaaGreatDoor
open Go.S
section
variable{N B:Nat}{d:TDisk}{T:List TStore}{U:List TStore81}{G:List TLog}{X:List Ttx}{Y:List TDeal}{s u:Int}{S:TStore}{v:SS}{dl:List Int}
theorem StOk.downed(h:StOk S X):StOk (downed S) X:=⟨h.lg,h.it,h.vs,h.n0,h.n1,h.ac,h.a12,h.an,h.ai,h.ov,h.ol,h.ao⟩
theorem Nx.fell(h:Nx N B d T U G X Y s u S v dl)(hb:B+1≤2513169434000){d':TDisk}{G':List TLog}(hd:Dk N d' 3000)(hG:G.length≤G'.length):Nx N (B+1) d' (T.set s.toNat (downed S)) (U.set u.toNat (rs (downed S) v dl)) G' X Y s u (downed S) v dl:=
 h.next (Nat.le_refl _) (Nat.le_refl _) hG h.ok.downed h.sm (h.dls.mono (by omega) hb) (h.sim.same rfl rfl rfl rfl) (by have:=h.now;show S.now_≤_;omega) hd (fun q=>by cases q) h.hf rfl
theorem Nx.stays(h:Nx N B d T U G X Y s u S v dl)(hb:B+1≤2513169434000){d':TDisk}{G':List TLog}(hd:Dk N d' 3000)(lg:S.down_=false→Half N G' S.logs_∧d'.late_.length≤300)(hG:G.length≤G'.length):Nx N (B+1) d' T U G' X Y s u S v dl:=by
 have:=h.next (Nat.le_refl _) (Nat.le_refl _) hG h.ok h.sm (h.dls.mono (B':=B+1) (by omega) hb) h.sim (by have:=h.now;omega) hd lg h.hf rfl
 rwa [vg h.hs,vg h.hu]at this
theorem Nx.commit(h:Nx N B d T U G X Y s u S v dl)(hb:B+1≤2513169434000)(id:Int):∃d' T' U' G' X' Y' S' e,M27 s id [d] T G X=some ([d'],T',G',X',e)∧M33 u id [rd d] U (G.map rl) Y=some ([rd d'],U',G'.map rl,Y',e)∧X'.length=X.length∧Y'.length=Y.length∧Nx N (B+1) d' T' U' G' X' Y' s u S' v dl:=by
 rcases w7 h.hs h.ok h.hu h.v20.1 h.dls h.sim id 0 with⟨e,he,h1,h2⟩|⟨a,y,t,c,h1,h2,hdn,i0,i1,ha,ht,hL,hd⟩
 ·refine⟨d,T,U,G,X,Y,S,e,?_,?_,rfl,rfl,h.up hb⟩
  ·rw[M27,h.hs,qa,h1,qe,qa,if_pos he]
  ·rw[M33,h.hu,qa,h2,qe,qa,if_pos he]
 ·obtain⟨t',ht',htk⟩:=h.ok.ac a ha
  cases qB ht ht'
  have c0:=(h.sim.a4 y c hL).1
  have hnw:=h.now
  have hn0:=h.ok.n0
  obtain⟨ins,outs,b,k1,k2,k3,k4,k5,k6,k7⟩:=ql4 h.hs h.ok ht htk (h.ok.ao a ha)
  obtain⟨b',m1,m2⟩:=qha h.hu h.v20.1 h.ok.lg hn0 h.ok.n1 h.dls hL.1 hL.2.1 c0
  have hbb:b=!b':=by
   have:=k6.trans (h.sim.may ha ht hL hd)
   rw[←m2]at this
   cases b<;>cases b'<;>simp at this ⊢
  have hP:M27 s id [d] T G X=if b=true then(wP (M61 s a [d] T G X) fun l15 l16 l17 x18=>qb (idx l16 s) fun kV=>if x18≠0 then some (l15,l16,l17,X,x18) else qb (qs 2 kV.logs_) fun _=>qb (i64 (kV.now_+1)) fun x26=>qb (idx X a) fun yU=>qb (upd X a (⟨yU.id_,yU.from_,x26,yU.reads_,yU.writes_,yU.texts_,yU.in_,yU.out_⟩:Ttx)) fun l92=>qag ins a outs x26 kV l16 s l15 l17 big 0 l92) else qb (M60 s a T X) fun l104=>qb (idx l104 s) fun th107=>some ([d],l104,G,X,12):=by
   rw[M27,h.hs,qa,h1,qe,qa,if_neg (by simp),k1,qg,qa]
  have hR:M33 u id [rd d] U (G.map rl) Y=if b'=true then(qb (upd Y y (⟨c.id_,c.from_,c.at_,true,c.Ops,c.texts_⟩:TDeal)) fun l90=>some ([rd d],U,G.map rl,l90,12)) else if 0<((moL c.texts_).length:Int) then qaf Y y (rs S v dl) [rd d] (G.map rl) U u big [67] 0 else qdd (rs S v dl) Y y U u [rd d] (G.map rl):=by
   rw[M33,h.hu,qa,h2,qe,qa,if_neg (by simp),m1,qa,qa,hL.2.1,qa,qa]
  cases hb':b' with
  | true =>
   rw[hb',Bool.not_true]at hbb
   obtain⟨S',g1,g2⟩:=h.dropped hb ha ht hL hd (e:=⟨c.id_,c.from_,c.at_,true,c.Ops,c.texts_⟩) rfl c0 rfl (Nat.le_refl _)
   refine⟨d,_,U,G,X,_,S',12,?_,?_,rfl,by simp,g2⟩
   ·rw[hP,hbb,if_neg ff,g1,qa,g2.hs,qa]
   ·rw[hR,hb',if_pos rfl,qx hL.2.1,qa]
  | false =>
   rw[hb',Bool.not_false]at hbb
   obtain⟨d',G',S1,e,p1,p2,p3,p4,p5,p6⟩:=h.keep hdn ha ht hL hd
   have hid:idx (T.set s.toNat S1) s=some S1:=qG h.hs
   rw[hP,hbb,if_pos rfl,p1,qH,hid,qa,hR,hb',if_neg ff,p2]
   by_cases ce:e=0
   ·have hS1:S1=S:=p3.elim (fun q=>q) fun q=>absurd ce q.2
    subst hS1
    rw[if_neg (by simpa using ce),if_pos ce,qh h.ok.lg,qa,qk (by omega) (by omega),qa,ht,qa,qx ht,qa,vg h.hs]
    obtain⟨S',Z,q1,q2,q3,q4⟩:=qov (D:=[d']) (G:=G') h.hs h.ok h.sm (by omega) ha ht k2 k3 k4 k5
    obtain⟨k8,k9⟩:=k7 hbb
    have hm : ¬qeP (Cm Y dl) y c (S1.now_+1):=fun q=>by rw[m2.2 q]at hb';cases hb'
    have hsim:=h.sim.commit h.ok ha ht hL hd hm k8 k9 q2
    obtain⟨c',hc',o1,o2,_⟩:=h.dls.d y hL.1
    cases qB hL.2.1 hc'
    have en:S'.now_=S1.now_+1:=by rw[q2.e]
    have er:rs S' v dl=⟨S1.logs_,S1.half_,S1.gen_,S1.down_,S1.now_+1,v,dl⟩:=by rw[q2.e];rfl
    have hZ:Z.length=X.length:=by have:=q2.lk.l;simpa using this
    have hnx:=h.next (B':=B+1) (d':=d') (G':=G') (X':=Z) (Y':=Y.set y.toNat (cAt c (S1.now_+1))) (S':=S') (dl':=dl) (by omega) (by simp) p6 q3 q4 (h.dls.set hb hL.2.1 (by exact Nat.le_succ_of_le o1) (by exact Nat.le_succ_of_le o2) fun _=>hd.n) (by rw[qmI hL c0 (by omega),qkj hL rfl];exact hsim) (by rw[en];omega) p4 (by rw[q2.e];exact p5) (by rw[q2.e];exact h.hf) (by rw[q2.e])
    refine⟨d',_,_,G',Z,_,S',0,q1,?_,hZ,by simp,hnx⟩
    rw[qdd,qh (show(rs S1 v dl).logs_.length=2 from h.ok.lg),qa,show(rs S1 v dl).now_=S1.now_ from rfl,qk (by omega) (by omega),qa,hL.2.1,qa,qx hL.2.1,qa,qx h.hu,qa,er]
    rfl
   ·rw[if_pos (by simpa using ce),if_neg ce]
    rcases p3 with rfl|⟨rfl,_⟩
    ·rw[vg h.hs,vg h.hu]
     exact⟨d',_,_,G',X,Y,_,e,rfl,rfl,rfl,rfl,h.stays hb p4 p5 p6⟩
    ·exact⟨d',_,_,G',X,Y,_,e,rfl,rfl,rfl,rfl,h.fell hb p4 p6⟩
end
end Go.Proofs.YtloiiohoelhldaaGreatDoor
end
section
namespace Go.Proofs.YtloiiohoelhldaaGreatDoor
open Go.S
theorem qlL(x:Int):I64 (IntKind.wrap .i64 x):=by
 have e:IntKind.wrap .i64 x=if 9223372036854775808≤x%18446744073709551616 then x%18446744073709551616-18446744073709551616 else x%18446744073709551616:=by simp[IntKind.wrap,IntKind.signed,IntKind.bits]
 unfold I64
 rw[e]
 split<;>omega
def qfT(V:SS):Nat→Nat→SS
 | 0,_=>[]
 | r+1,i=>if V.getD i []≠[] then(83::pr (i:Int) (V.getD i []))::qfT V r (i+1) else qfT V r (i+1)
theorem qbb(V:SS):∀r i,(qfT V r i).length≤r
 | 0,_=>Nat.le_refl _
 | r+1,i=>by
  have:=qbb V r (i+1)
  rw[qfT];split
  ·rw[List.length_cons];omega
  ·omega
def tidied(S:TStore):TStore:=⟨S.logs_,1-S.half_,IntKind.wrap .i64 (S.gen_+1),S.down_,S.now_,S.items_,S.active_,S.over_⟩
section
variable{N B:Nat}{d:TDisk}{T:List TStore}{U:List TStore81}{G:List TLog}{X:List Ttx}{Y:List TDeal}{s u:Int}{S:TStore}{v:SS}{dl:List Int}{a:Int}{V:SS}
theorem qna(hV:V20 V){i:Nat}(hi:i<20):zd 20 V (i:Int)=some (V.getD i [])∧(V.getD i []).length≤20:=by
 obtain⟨x,e1,e2⟩:=jx (k:=(i:Int)) hV.1 (by omega) (by omega)
 have:V.getD i []=x:=by rw[List.getD_eq_getElem?_getD,←jw,e2];rfl
 rw[this]
 exact⟨e1,hV.2 x (qbi e2)⟩
theorem qfM(hV:V20 V)(D:List TDisk):∀(r i:Nat),i+r=20→∀n,r<n→∀l:SS,l.length≤i→qbP V a T s D G S n l (i:Int)=qh3 a T s D G (l++qfT V r i) S.logs_ S.half_ S.gen_ S.down_ S.now_ S.items_ S.active_ S.over_:=by
 intro r
 induction r with
 | zero =>
  intro i hi n hn l hl
  obtain⟨n,rfl⟩:=Nat.exists_eq_add_one.2 hn
  rw[qbP,qfn,if_neg (by omega),qfT,List.append_nil]
 | succ r ih =>
  intro i hi n hn l hl
  obtain⟨n,rfl⟩:=Nat.exists_eq_add_one.2 (show 0<n by omega)
  obtain⟨e1,e2⟩:=qna hV (show i<20 by omega)
  rw[qbP,qfn,if_pos (by omega),e1,qa,qfT,qD i (by omega)]
  by_cases c:V.getD i []=[]
  ·rw[if_neg (by simpa using c),if_neg (by simpa using c),qa]
   exact ih (i+1) (by omega) n (by omega) l (by omega)
  ·have hp:qad ((i:Int),V.getD i []):=⟨by show(0:Int)≤i;omega,by show(i:Int)<20;omega,e2⟩
   have hpl:=qcs hp
   rw[if_pos c,if_pos c,(qbe hp).1,qa,qC (by simp at hpl ⊢;omega),qa,qE (by simp;omega),qa,qa,ih (i+1) (by omega) n (by omega) _ (by simp;omega),List.append_assoc]
   rfl
theorem qep(hu:idx U u=some (rs S v dl))(hlg:S.logs_.length=2)(hV:V20 V)(D:List TDisk51)(H:List TLog122){e:Int}(he:e≠0):∀(r i:Nat),i+r=20→∀n,r<n→ww V a U u (rs S v dl) n e (i:Int) D H=some (D,U.set u.toNat (rs (downed S) v dl),H,e):=by
 intro r
 induction r with
 | zero =>
  intro i hi n hn
  obtain⟨n,rfl⟩:=Nat.exists_eq_add_one.2 hn
  rw[ww,qaR,if_neg (by omega),qh1,if_neg he,qdc,if_neg he,qd6,if_pos he,qh (show(rs S v dl).logs_.length=2 from hlg),qa,qx hu,qa]
  rfl
 | succ r ih =>
  intro i hi n hn
  obtain⟨n,rfl⟩:=Nat.exists_eq_add_one.2 (show 0<n by omega)
  rw[ww,qaR,if_pos (by omega),(qna hV (show i<20 by omega)).1,qa,if_neg he,qD i (by omega),qa]
  exact ih (i+1) (by omega) n (by omega)
def qmW(N:Nat)(T:List TStore)(U:List TStore81)(G:List TLog)(S:TStore)(s u:Int)(v:SS)(dl:List Int)(p:Option (List TDisk×List TStore×List TLog×Int))(r:Option (List TDisk51×List TStore81×List TLog122×Int)):Prop:=
 ∃d' G' S1 e,p=some ([d'],T.set s.toNat S1,G',e)∧r=some ([rd d'],U.set u.toNat (rs S1 v dl),G'.map rl,e)∧(S1=S∨S1=downed S∨S1=tidied S)∧Dk N d' 3000∧(S1.down_=false→Half N G' S.logs_∧d'.late_.length≤300)∧G.length≤G'.length
structure Tin(N:Nat)(G:List TLog)(S:TStore)(a:Int)(d:TDisk)(g:TLog):Prop where
 dk:Dk N d 300
 lg:Lg N g
 f:g.fell_=false
 l:(d.late_.length:Int)≤g.at_
 h:∀g',Lg N g'→g'.fell_=false→Half N (G.set a.toNat g') S.logs_
theorem qg4{g g0:TLog}(hs:idx T s=some S)(hu:idx U u=some (rs S v dl))(hlg:S.logs_.length=2)(h0:idx G a=some g0)(hi:Tin N G S a d g)(hN:N≤256)(z:List UInt8){P:Int→List TDisk→List TLog→Option (List TDisk×List TStore×List TLog×Int)}{R:Int→List TDisk51→List TLog122→Option (List TDisk51×List TStore81×List TLog122×Int)}
  (hR:∀e D H,e≠0→e≠8→R e D H=some (D,U.set u.toNat (rs (downed S) v dl),H,e))
  (hdn:S.down_=false) (go:∀d' g',Tin N G S a d' g'→qmW N T U G S s u v dl (P 0 [d'] (G.set a.toNat g')) (R 0 [rd d'] ((G.set a.toNat g').map rl))) :
  qmW N T U G S s u v dl (qI (M66 a z [d] (G.set a.toNat g)) fun l50 l51 x52=>if x52=0 then P x52 l50 l51 else if x52=8 then qb (upd T s ⟨S.logs_,S.half_,S.gen_,S.down_,S.now_,S.items_,S.active_,S.over_⟩) fun l60=>some (l50,l60,l51,x52) else qb (upd T s ⟨S.logs_,S.half_,S.gen_,S.down_,S.now_,S.items_,S.active_,S.over_⟩) fun l62=>qo (M64 s x52 l62) fun l63 x64=>qb (idx l63 s) fun th67=>some (l50,l63,l51,x64))
   (qI (M71 a z [rd d] ((G.set a.toNat g).map rl)) fun l58 l59 x60=>if x60=8 then some (l58,U,l59,x60) else R x60 l58 l59):=by
 have hg:idx (G.set a.toNat g) a=some g:=qG h0
 obtain⟨d1,g1,e,p1,p2,p3⟩:=qcX hi.dk (by omega) hg hi.lg z
 rw[p1,qg,p2,qg,vu]
 have hself:upd T s ⟨S.logs_,S.half_,S.gen_,S.down_,S.now_,S.items_,S.active_,S.over_⟩=some T:=by rw[show(⟨S.logs_,S.half_,S.gen_,S.down_,S.now_,S.items_,S.active_,S.over_⟩:TStore)=S from rfl,qx hs,vg hs]
 rw[hself,qa,qa]
 have fl:Dk N d1 3000→e≠0→e≠8→qmW N T U G S s u v dl (if e=0 then P e [d1] (G.set a.toNat g1) else if e=8 then some ([d1],T,G.set a.toNat g1,e) else qo (M64 s e T) fun l63 x64=>qb (idx l63 s) fun th67=>some ([d1],l63,G.set a.toNat g1,x64)) (if e=8 then some ([rd d1],U,(G.set a.toNat g1).map rl,e) else R e [rd d1] ((G.set a.toNat g1).map rl)):=fun hd n0 n8=>by
  refine⟨d1,G.set a.toNat g1,downed S,e,?_,by rw[if_neg n8,hR e _ _ n0 n8],.inr (.inl rfl),hd,fun q=>(by cases q),by simp⟩
  rw[if_neg n0,if_neg n8,y9 hs hlg,hdn,show(false||decide (e≠0))=true by simpa using n0,qe,show(⟨S.logs_,S.half_,S.gen_,true,S.now_,S.items_,S.active_,S.over_⟩:TStore)=downed S from rfl,qG hs,qa]
 rcases p3 with⟨n0,rfl,rfl,n1⟩|⟨rfl,⟨k,rfl,n1⟩,n2,n3,n4⟩|⟨n0,rfl,n1,n2,n3⟩
 ·by_cases c8:e=8
  ·subst c8
   have hl:=hi.lg.a1
   have:=hi.lg.fz
   have:=hi.lg.f0
   have:=hi.l
   refine⟨d1,G.set a.toNat g1,S,8,by rw[if_neg (by simp),if_pos rfl,vg hs],by rw[if_pos rfl,vg hu],.inl rfl,hi.dk.more (by have:=hi.dk.ll;omega),fun _=>⟨hi.h g1 hi.lg hi.f,by omega⟩,by simp⟩
  ·exact fl (hi.dk.more (by have:=hi.dk.ll;omega)) n0 c8
 ·have hl:=n4.a1
  have:=n4.fz
  have:=n4.f0
  have:=hi.l
  have h5:(d1.late_.length:Int)≤(adv g k).at_:=by simp only[adv];omega
  rw[if_pos rfl,if_neg (by simp)]
  exact go d1 (adv g k) ⟨n3.more (by simp only[adv]at *;omega),n4,hi.f,h5,hi.h⟩
 ·exact fl (n1.more (by have:=n1.ll;omega)) n0 n3
end
end Go.Proofs.YtloiiohoelhldaaGreatDoor
end
section
namespace Go.Proofs.YtloiiohoelhldaaGreatDoor
open Go.S
section
variable{N B:Nat}{d:TDisk}{T:List TStore}{U:List TStore81}{G:List TLog}{X:List Ttx}{Y:List TDeal}{s u:Int}{S:TStore}{v:SS}{dl:List Int}{a:Int}{V:SS}
theorem qgD{g0:TLog}(hs:idx T s=some S)(hu:idx U u=some (rs S v dl))(hlg:S.logs_.length=2)(h0:idx G a=some g0)(hN:N≤256)(hV:V20 V)(hdn:S.down_=false)(hf:S.half_=0∨S.half_=1){L:SS}(hL:L.length≤1000):∀(r i:Nat),i+r=20→∀(n n' j:Nat),r<n→(qfT V r i).length+2≤n'→L.drop j=qfT V r i++[[68]]→∀d g,Tin N G S a d g →
  qmW N T U G S s u v dl (wT L a T s S.logs_ S.half_ S.gen_ S.down_ S.now_ S.items_ S.active_ S.over_ n' (j:Int) [d] (G.set a.toNat g)) (ww V a U u (rs S v dl) n 0 (i:Int) [rd d] ((G.set a.toNat g).map rl)):=by
 have hself:upd T s ⟨S.logs_,S.half_,S.gen_,S.down_,S.now_,S.items_,S.active_,S.over_⟩=some T:=by rw[show(⟨S.logs_,S.half_,S.gen_,S.down_,S.now_,S.items_,S.active_,S.over_⟩:TStore)=S from rfl,qx hs,vg hs]
 have hself':upd U u ⟨(rs S v dl).logs_,(rs S v dl).half_,(rs S v dl).gen_,(rs S v dl).down_,(rs S v dl).now_,(rs S v dl).first_,(rs S v dl).deals_⟩=some U:=by rw[show(⟨(rs S v dl).logs_,(rs S v dl).half_,(rs S v dl).gen_,(rs S v dl).down_,(rs S v dl).now_,(rs S v dl).first_,(rs S v dl).deals_⟩:TStore81)=rs S v dl from rfl,qx hu,vg hu]
 have hl2:(rs S v dl).logs_.length=2:=hlg
 intro r
 induction r with
 | zero =>
  intro i hi n n' j hn hn' hj d g ht
  obtain⟨n,rfl⟩:=Nat.exists_eq_add_one.2 hn
  obtain⟨n',rfl⟩:=Nat.exists_eq_add_one.2 (show 0<n' by omega)
  rw[qfT,List.nil_append]at hj
  rw[qfT,List.length_nil]at hn'
  have hjl:j<L.length:=by
   have:=congrArg List.length hj
   simp only[List.length_drop,List.length_singleton]at this;omega
  rw[kh hjl]at hj
  obtain⟨e1,e2⟩:=List.cons.inj hj
  have hj2:j+1=L.length:=by
   have:=congrArg List.length e2
   simp only[List.length_drop,List.length_nil]at this;omega
  rw[wT,qde,if_pos (by omega),qp hjl,qa,e1,ww,qaR,if_neg (by omega),qh1,if_pos rfl]
  simp only[hself',qa]
  refine qg4 (P:=fun e D H=>qb (i64 ((j:Int)+1)) fun x57=>wT L a T s S.logs_ S.half_ S.gen_ S.down_ S.now_ S.items_ S.active_ S.over_ n' x57 D H) (R:=fun e D H=>qdc a (rs S v dl).logs_ U u (rs S v dl).half_ (rs S v dl).gen_ (rs S v dl).now_ (rs S v dl).first_ (rs S v dl).deals_ (rs S v dl).down_ e D H) hs hu hlg h0 ht hN [68] (fun e D H ne n8=>?_) hdn fun d' g' ht'=>?_
  ·simp only[qdc,qd6]
   rw[if_neg ne,if_pos ne,qh hl2,qa,qx hu];rfl
  ·obtain⟨n',rfl⟩:=Nat.exists_eq_add_one.2 (show 0<n' by omega)
   obtain⟨d2,e,r1,r2,r3,r4⟩:=qgI ht'.dk (qG h0 (y:=g')) ht'.lg ht'.f
   simp only[qD j (show j<9223372036854775807 by omega),qa]
   rw[wT,qde,if_neg (by omega),qjz,r1,qg,qdc,if_pos rfl,r2,qg,qd6,qh hl2,qh hlg,qa,qa,hself,qa,vu]
   by_cases ce:e=0
   ·subst ce
    refine⟨d2,G.set a.toNat (qO g' 0),tidied S,0,?_,?_,.inr (.inr rfl),r3.more (by rw[r4 rfl];simp),fun _=>⟨ht'.h _ (ht'.lg.fell 0) (by simp[qO,ht'.f]),by rw[r4 rfl];simp⟩,by simp⟩
    ·rw[if_neg (by simp),qk (by omega) (by omega),qa,qx hs,qa];rfl
    ·rw[if_neg (by simp),show(rs S v dl).half_=S.half_ from rfl,qk (by omega) (by omega),qa,qa,qx hu,qa];rfl
   ·refine⟨d2,G.set a.toNat (qO g' e),downed S,e,?_,?_,.inr (.inl rfl),r3.more (by have:=r3.ll;omega),fun q=>(by cases q),by simp⟩
    ·rw[if_pos ce,y9 hs hlg,hdn,show(false||decide (e≠0))=true by simpa using ce,qe,show(⟨S.logs_,S.half_,S.gen_,true,S.now_,S.items_,S.active_,S.over_⟩:TStore)=downed S from rfl,qG hs,qa]
    ·rw[if_pos ce,qx hu,qa];rfl
 | succ r ih =>
  intro i hi n n' j hn hn' hj d g ht
  obtain⟨n,rfl⟩:=Nat.exists_eq_add_one.2 (show 0<n by omega)
  obtain⟨e1,e2⟩:=qna hV (show i<20 by omega)
  rw[qfT]at hj hn'
  rw[ww,qaR,if_pos (by omega),e1,qa,if_pos rfl,qD i (by omega)]
  by_cases c:V.getD i []=[]
  ·rw[if_neg (by simpa using c)]at hj hn'
   rw[if_neg (by simpa using c),qa]
   exact ih (i+1) (by omega) n n' j (by omega) hn' hj d g ht
  ·rw[if_pos c]at hj hn'
   obtain⟨n',rfl⟩:=Nat.exists_eq_add_one.2 (show 0<n' by omega)
   have hp:qad ((i:Int),V.getD i []):=⟨by show(0:Int)≤i;omega,by show(i:Int)<20;omega,e2⟩
   have hpl:=qcs hp
   have hjl:j<L.length:=by
    have:=congrArg List.length hj
    simp only[List.length_drop,List.length_append,List.length_cons]at this;omega
   rw[kh hjl,List.cons_append]at hj
   obtain⟨q1,q2⟩:=List.cons.inj hj
   rw[if_pos c,(qbe hp).2,qa,qC (by simp at hpl ⊢;omega),qa,wT,qde,if_pos (by omega),qp hjl,qa,q1]
   refine qg4 (P:=fun e D H=>qb (i64 ((j:Int)+1)) fun x57=>wT L a T s S.logs_ S.half_ S.gen_ S.down_ S.now_ S.items_ S.active_ S.over_ n' x57 D H) (R:=fun e D H=>qb (some ((i+1:Nat):Int)) fun x65=>ww V a U u (rs S v dl) n e x65 D H) hs hu hlg h0 ht hN _ (fun e D H ne n8=>?_) hdn fun d' g' ht'=>?_
   ·exact qep hu hlg hV D H ne r (i+1) (by omega) n (by omega)
   ·simp only[qD j (show j<9223372036854775807 by omega),qa]
    exact ih (i+1) (by omega) n n' (j+1) (by omega) (by simp only[List.length_cons]at hn';omega) q2 d' g' ht'
theorem StOk.tidied(h:StOk S X):StOk (tidied S) X:=⟨h.lg,h.it,h.vs,h.n0,h.n1,h.ac,h.a12,h.an,h.ai,h.ov,h.ol,h.ao⟩
theorem Nx.tidy(h:Nx N B d T U G X Y s u S v dl)(hb:B+1≤2513169434000):∃d' T' U' G' S' e,M29 s [d] T G=some ([d'],T',G',e)∧M35 u [rd d] U (G.map rl) Y=some ([rd d'],U',G'.map rl,e)∧Nx N (B+1) d' T' U' G' X Y s u S' v dl:=by
 have hl2:(rs S v dl).logs_.length=2:=h.ok.lg
 rw[M29,h.hs,qa,qh h.ok.lg,qa,M35,h.hu,qa,qh hl2,qa,show(rs S v dl).down_=S.down_ from rfl,show(rs S v dl).half_=S.half_ from rfl,show(rs S v dl).gen_=S.gen_ from rfl,show(rs S v dl).logs_=S.logs_ from rfl]
 cases hdn:S.down_ with
 | true =>
  rw[if_pos rfl,if_pos rfl]
  exact⟨d,T,U,G,S,13,rfl,rfl,h.up hb⟩
 | false =>
  obtain⟨hh,hlate⟩:=h.lg hdn
  have hhf:=h.hf
  obtain⟨a,g,q1,q2,q3,q4,q5⟩:=hh.at (k:=1-S.half_) (by omega)
  have hI:=qlL (S.gen_+1)
  have hIl:=jg hI
  obtain⟨w1,w2,w3⟩:=h.vals
  rw[if_neg ff,if_neg ff,qk (by omega) (by omega),qa,qa,q1,qa,qa,yj hI,qa,qcw hI,qa,qC (by simp;omega),qa,qa]
  obtain⟨d1,g1,e,p1,p2,p3,p4⟩:=qiF (h.dk.more hlate) (by omega) q2 q3 q4 ([72]++pI (IntKind.wrap .i64 (S.gen_+1)))
  rw[p1,qg,p2,qg,w1,qa,w2,qe,h.hu,qa,qa]
  by_cases ce:e=0
  ·subst ce
   obtain⟨p6,rfl,p5⟩:=p4 rfl
   rw[if_neg (by simp),show(0:Int)=((0:Nat):Int) from rfl,qfM (a:=a) w3 [d1] 20 0 (by omega) big (by rw[qv];omega) [] (by simp),qh3,List.nil_append,qE (by have:=qbb (S.items_.map qS) 20 0;simp;omega),qa]
   have hr:=qbb (S.items_.map qS) 20 0
   obtain⟨d',G',S1,e,k1,k2,k3,k4,k5,k6⟩:=qgD (v:=v) (dl:=dl) (a:=a) (V:=S.items_.map qS) h.hs h.hu h.ok.lg q2 h.dk.n w3 hdn hhf (L:=qfT (S.items_.map qS) 20 0++[[68]]) (by simp;omega) 20 0 (by omega) big big 0 (by rw[qv];omega) (by rw[qv];omega) rfl d1 (rst g) ⟨p3.more (by rw[p6];simp),p5,q4,by rw[p6];simp[rst],q5⟩
   refine⟨d',_,_,G',S1,e,k1,k2,?_⟩
   rcases k3 with rfl|rfl|rfl
   ·rw[vg h.hs,vg h.hu];exact h.stays hb k4 k5 k6
   ·exact h.fell hb k4 k6
   ·exact h.next (Nat.le_refl _) (Nat.le_refl _) k6 h.ok.tidied h.sm (h.dls.mono (by omega) hb) (h.sim.same rfl rfl rfl rfl) (by have:=h.now;show S.now_≤_;omega) k4 k5 (by simp only[Go.Proofs.YtloiiohoelhldaaGreatDoor.tidied];omega) rfl
  ·rw[if_pos ce,show(0:Int)=((0:Nat):Int) from rfl,qep h.hu h.ok.lg w3 _ _ ce 20 0 (by omega) big (by rw[qv];omega),y9 h.hs h.ok.lg,hdn,show(false||decide (e≠0))=true by simpa using ce,qe,show(⟨S.logs_,S.half_,S.gen_,true,S.now_,S.items_,S.active_,S.over_⟩:TStore)=downed S from rfl,qG h.hs,qa]
   exact⟨d1,_,_,_,downed S,e,rfl,rfl,h.fell hb (p3.more (by have:=p3.ll;omega)) (by simp)⟩
end
end Go.Proofs.YtloiiohoelhldaaGreatDoor
end
section
namespace Go.Proofs.YtloiiohoelhldaaGreatDoor
open Go.S
def z64:List UInt8:=List.replicate 64 0
def wD(n:Nat):TDisk:=⟨List.replicate n z64,List.replicate n z64,[],-1⟩
theorem qoi(N:Nat)(hN:N≤256):∀(r i:Nat),i+r=N→∀n,r<n→qiq (N:Int) 0 n (i:Int) [⟨List.replicate i z64,[],[],-1⟩]=some ([wD N],0,0):=by
 intro r
 induction r with
 | zero =>
  intro i hi n hn
  obtain⟨n,rfl⟩:=Nat.exists_eq_add_one.2 hn
  rw[qiq,qju,if_neg (by omega),qm0,i1,qa,qE (by simp;omega),qa,u1,qa,show i=N by omega]
  rfl
 | succ r ih =>
  intro i hi n hn
  obtain⟨n,rfl⟩:=Nat.exists_eq_add_one.2 (show 0<n by omega)
  rw[qiq,qju,if_pos (by omega),i1,qa,show xj [0] 64=some z64 from qcr 64 (Nat.le_refl _),qa,qE (by simp;omega),qa,qD i (by omega),qa,u1,qa,←List.replicate_succ']
  exact ih (i+1) (by omega) n (by omega)
theorem qoh(N:Nat)(hN:N≤256):∀(r i:Nat),i+r=N→∀n,r<n→qip (N:Int) 0 n (i:Int) [⟨List.replicate i z64,List.replicate i z64,[],[],-1⟩]=some ([rd (wD N)],0):=by
 intro r
 induction r with
 | zero =>
  intro i hi n hn
  obtain⟨n,rfl⟩:=Nat.exists_eq_add_one.2 hn
  rw[qip,qjq,if_neg (by omega),qmZ,show i=N by omega]
  rfl
 | succ r ih =>
  intro i hi n hn
  obtain⟨n,rfl⟩:=Nat.exists_eq_add_one.2 (show 0<n by omega)
  rw[qip,qjq,if_pos (by omega),i1,qa,show M18 64=some z64 from w6 64 (Nat.le_refl _),qa,qE (by simp;omega),qa,qa,qE (by simp;omega),qa,qD i (by omega),qa,u1,qa,←List.replicate_succ']
  exact ih (i+1) (by omega) n (by omega)
theorem qi6(N:Nat)(hN:N≤256):Dk N (wD N) 0:=by
 have hz:z64.length=64:=by simp[z64]
 exact⟨by simp[wD],by simp[wD],hN,fun x hx=>by rw[(List.mem_replicate.1 hx).2];exact hz,fun x hx=>by rw[(List.mem_replicate.1 hx).2];exact hz,fun w hw=>(by cases hw),by simp[wD],by simp[wD],by simp[wD]⟩
section
variable{N B:Nat}{d:TDisk}{T:List TStore}{U:List TStore81}{G:List TLog}{X:List Ttx}{Y:List TDeal}{s u:Int}{S:TStore}{v:SS}{dl:List Int}
theorem Nx.wish(h:Nx N B d T U G X Y s u S v dl)(hb:B+1≤2513169434000)(w:TWish)(hk:1≤w.Kind∧w.Kind≤6):qoJ N (B+1) s u (M8 s w [d] T G X) (M9 u w [rd d] U (G.map rl) Y):=by
 rw[M8,h.hs,qa,M9,h.hu,qa]
 by_cases c1:w.Kind=1
 ·obtain⟨T',U',X',Y',S',dl',e,e1,e2,g⟩:=h.begun hb w.Tx
  rw[if_pos c1,if_pos c1,e1,qg,g.hs,qa,e2,qg,g.hu,qa]
  exact⟨d,T',U',G,X',Y',S',v,dl',_,rfl,rfl,g⟩
 by_cases c2:w.Kind=2
 ·obtain⟨X',Y',x,e,e1,e2,l1,l2,g⟩:=h.read hb w.Tx w.Item
  rw[if_neg c1,if_neg c1,if_pos c2,if_pos c2,e1,qg,zf l1,qa,qa,e2,qg,zf l2,qa,qa]
  exact⟨d,T,U,G,X',Y',S,v,dl,_,rfl,rfl,g⟩
 by_cases c3:w.Kind=3
 ·obtain⟨X',Y',e,e1,e2,l1,l2,g⟩:=h.write hb w.Tx w.Item w.Text
  rw[if_neg c1,if_neg c1,if_neg c2,if_neg c2,if_pos c3,if_pos c3,e1,qe,zf l1,qa,qa,e2,qe,zf l2,qa,qa]
  exact⟨d,T,U,G,X',Y',S,v,dl,_,rfl,rfl,g⟩
 by_cases c4:w.Kind=4
 ·obtain⟨d',T',U',G',X',Y',S',e,e1,e2,l1,l2,g⟩:=h.commit hb w.Tx
  rw[if_neg c1,if_neg c1,if_neg c2,if_neg c2,if_neg c3,if_neg c3,if_pos c4,if_pos c4,e1,qu,zf l1,qa,g.hs,qa,e2,qu,zf l2,qa,g.hu,qa]
  exact⟨d',T',U',G',X',Y',S',v,dl,_,rfl,rfl,g⟩
 by_cases c5:w.Kind=5
 ·obtain⟨T',Y',S',e,e1,e2,l2,g⟩:=h.abort hb w.Tx
  rw[if_neg c1,if_neg c1,if_neg c2,if_neg c2,if_neg c3,if_neg c3,if_neg c4,if_neg c4,if_pos c5,if_pos c5,e1,qe,g.hs,qa,e2,qe,zf l2,qa,qa]
  exact⟨d,T',U,G,X,Y',S',v,dl,_,rfl,rfl,g⟩
 have c6:w.Kind=6:=by omega
 obtain⟨d',T',U',G',S',e,e1,e2,g⟩:=h.tidy hb
 rw[if_neg c1,if_neg c1,if_neg c2,if_neg c2,if_neg c3,if_neg c3,if_neg c4,if_neg c4,if_neg c5,if_neg c5,if_pos c6,if_pos c6,e1,qH,g.hs,qa,e2,qH,g.hu,qa]
 exact⟨d',T',U',G',X,Y,S',v,dl,_,rfl,rfl,g⟩
theorem qjP{g0 g1:TLog}{hf gen:Int}(hd:Dk N d 0)(l0:Lg N g0)(l1:Lg N g1)(f0:g0.fell_=false)(f1:g1.fell_=false)(hh:hf=0∨hf=1)(hv:V20 v)(hb:B≤2513169434000)(pT:∀x∈T,TStore.ok130 X.length x∧TStore.ok108 G.length x)(pU:∀x∈U,TStore81.ok149 Y.length x∧TStore81.ok122 G.length x) :
  Nx N B d (T++[wL [(G.length:Int),(G.length:Int)+1] hf gen (qM v)]) (U++[qfU [(G.length:Int),(G.length:Int)+1] hf gen v]) (G++[g0]++[g1]) X Y T.length U.length (wL [(G.length:Int),(G.length:Int)+1] hf gen (qM v)) v []:=by
 have hC:Cm Y []=fun _ _=>False:=by funext z c;simp[Cm]
 have hL:Lv Y []=fun _ _=>False:=by funext z c;simp[Lv]
 have hi:∀l∈qM v,∃x∈v,l=[⟨0,x⟩]:=fun l hl=>by
  obtain⟨x,hx,rfl⟩:=List.mem_map.1 hl;exact⟨x,hx,rfl⟩
 have hlg:∀k∈[(G.length:Int),(G.length:Int)+1],k<((G++[g0]++[g1]).length:Int):=fun k hk=>by
  simp at hk ⊢;omega
 refine⟨qZ _ _,qZ _ _,⟨rfl,by simpa [wL,qM]using hv.1,fun l hl=>?_,by simp[wL],by simp[wL],by simp[wL,Txs],by simp[wL],by simp[wL],by simp[wL],by simp[wL,Txs],by simp[wL],by simp[wL]⟩,fun l hl=>?_,hv,⟨by simp,by simp,by simp,hb⟩,by rw[hC,hL];exact .new _ _ _ _ _,by simp[wL],hd.more (by have:=hd.ll;omega),fun _=>⟨⟨_,_,g0,g1,rfl,by omega,?_,?_,l0,l1,f0,f1⟩,by have:=hd.ll;omega⟩,hh,fun x hx=>?_,fun x hx=>?_⟩
 ·obtain⟨x,hx,rfl⟩:=hi l hl
  exact⟨by simp,fun i hi=>by simp at hi,fun w hw=>by rw[List.mem_singleton.1 hw];exact⟨Int.le_refl _,by simp[wL],hv.2 x hx⟩,by simp⟩
 ·obtain⟨x,hx,rfl⟩:=hi l hl;simp
 ·exact xn (qZ _ _)
 ·have:=qZ (G++[g0]) g1
  rwa [show(((G++[g0]).length:Nat):Int)=(G.length:Int)+1 by simp]at this
 ·rcases List.mem_append.1 hx with hx|hx
  ·obtain⟨h1,h2⟩:=pT x hx
   exact⟨h1,fun k hk=>by have:=h2 k hk;simp;omega⟩
  ·rw[List.mem_singleton.1 hx]
   exact⟨⟨by simp[wL],by simp[wL]⟩,hlg⟩
 ·rcases List.mem_append.1 hx with hx|hx
  ·obtain⟨h1,h2⟩:=pU x hx
   exact⟨h1,fun k hk=>by have:=h2 k hk;simp;omega⟩
  ·rw[List.mem_singleton.1 hx]
   exact⟨by simp[qfU,TStore81.ok149],hlg⟩
theorem qgK(h:Dk N d 3000)(hl:d.left_≠0)(e:TDisk51)(he:e.Seen=d.seen_):∀(r i:Nat),i+r=d.seen_.length→∀n,r<n→qjx e 0 [d] n (i:Int)=some true:=by
 have hn:=h.n
 have ht:=h.t
 intro r
 induction r with
 | zero =>
  intro i hi n hn
  obtain⟨n,rfl⟩:=Nat.exists_eq_add_one.2 hn
  rw[qjx,qjw,he,if_neg (by omega)];rfl
 | succ r ih =>
  intro i hi n hn
  obtain⟨n,rfl⟩:=Nat.exists_eq_add_one.2 (show 0<n by omega)
  rw[qjx,qjw,he,if_pos (by omega),qp (show i<d.seen_.length by omega),qa,qbc h hl i (by omega),qe,if_neg (by simp),if_neg (by simp),qD i (by omega),qa]
  exact ih (i+1) (by omega) n (by omega)
theorem qfZ{L:List TStoreDeed}(hF:∀x∈L,x.Fuse≤9223372036854775807)(hl:L.length≤2513169434000):∀(r i:Nat),i+r=L.length→∀n,r<n→∀(d:TDisk) (T:List TStore) (U:List TStore81) (G:List TLog) (X:List Ttx) (Y:List TDeal) (s u:Int) (S:TStore) (v:SS) (dl:List Int),Nx N i d T U G X Y s u S v dl →
  qgA L 0 0 n s u (i:Int) [rd d] U (G.map rl) [d] T G X Y=some true:=by
 intro r
 induction r with
 | zero =>
  intro i hi n hn d T U G X Y s u S v dl h
  obtain⟨n,rfl⟩:=Nat.exists_eq_add_one.2 hn
  obtain⟨d',e1,e2,e3,rfl⟩:=qhp h.dk (-1) (by omega)
  rw[qgA,qjv,if_neg (by omega),qm1,e1,qa,i1,qa]
  exact qgK e3 (by show max (-1:Int) (-1)≠0;omega) (rd d) rfl d.seen_.length 0 (by simp) big (by have:=h.dk.t;have:=h.dk.n;rw[qv];omega)
 | succ r ih =>
  intro i hi n hn d T U G X Y s u S v dl h
  obtain⟨n,rfl⟩:=Nat.exists_eq_add_one.2 (show 0<n by omega)
  have hil:i<L.length:=by omega
  have k5:∀{d T U G X Y s u S v dl},Nx N (i+1) d T U G X Y s u S v dl→qkb (i:Int) (qgA L 0 0 n) s u [rd d] U (G.map rl) [d] T G X Y=some true:=fun {d T U G X Y s u S v dl} h'=>by
   obtain⟨w1,w2,w3⟩:=h'.vals
   rw[qkb,w1,qa,w2,qe,qh w3.1,qa,qa,if_neg (by simp),qD i (by omega),qa]
   exact ih (i+1) (by omega) n (by omega) _ _ _ _ _ _ _ _ _ _ _ h'
  have hup:=h.up (by omega)
  have wish:1≤L[i].Wish.Kind∧L[i].Wish.Kind≤6→qgj s L[i] [d] T G X u [rd d] U (G.map rl) Y (i:Int) (qgA L 0 0 n) 0 0 true=some true:=fun hk=>by
   obtain⟨d',T',U',G',X',Y',S',v',dl',o,e1,e2,g⟩:=h.wish (by omega) L[i].Wish hk
   rw[qgj,if_pos rfl,show(⟨L[i].Wish.Kind,L[i].Wish.Tx,L[i].Wish.Item,L[i].Wish.Text⟩:TWish)=L[i].Wish from rfl,e1,qu,e2,qu,if_neg (by simp)]
   exact k5 g
  have rest:qgj s L[i] [d] T G X u [rd d] U (G.map rl) Y (i:Int) (qgA L 0 0 n) 0 0 false=some true:=by
   rw[qgj,if_neg ff]
   by_cases c7:L[i].Wish.Kind=7
   ·obtain⟨d',e1,e2,e3,hd'⟩:=qhp h.dk L[i].Fuse (hF _ (List.getElem_mem hil))
    rw[if_pos c7,e1,qa,e2,qa]
    refine k5 (S:=S) (v:=v) (dl:=dl) ⟨hup.hs,hup.hu,hup.ok,hup.sm,hup.v20,hup.dls,hup.sim,hup.now,e3,fun q=>?_,hup.hf,hup.pT,hup.pU⟩
    rw[hd'];exact h.lg q
   rw[if_neg c7]
   by_cases c8:L[i].Wish.Kind=8
   ·obtain⟨d',e1,e2,e3⟩:=qi2 h.dk (by omega) L[i].Keep
    rw[if_pos c8,e1,qa,e2,qa]
    rcases qej e3 (by omega) T U G (fun x hx=>(h.pT x hx).2) (fun x hx=>(h.pU x hx).2) with⟨d2,G',U',e,he,q1,q2⟩|⟨d2,g0,g1,hf,gen,v',q1,q2,q3,q4,q5,q6,q7,q8,q9⟩
    ·rw[q1,qu,q2,qu,if_pos he,if_pos rfl]
     rfl
    ·rw[q1,qu,q2,qu,if_neg (by simp),if_neg (by simp),if_neg (by omega)]
     exact k5 (qjP q3 q4 q5 q6 q7 q8 q9 (by omega) h.pT h.pU)
   ·rw[if_neg c8]
    exact k5 hup
  rw[qgA,qjv,if_pos (by omega),qp hil,qa]
  by_cases c:1≤L[i].Wish.Kind∧L[i].Wish.Kind≤6
  ·rw[wish c,rest]
   simp only[ite_self]
  ·rw[if_neg (by omega),if_neg (by omega),if_neg (by omega),if_neg (by omega),if_neg (by omega),if_neg (by omega),rest]
theorem qnk(a0:Int)(L:List TStoreDeed)(hF:∀x∈L,x.Fuse≤9223372036854775807)(hl:L.length≤2513169434000):M3 a0 L=some true:=by
 rw[M3,zf (by simp),qa,M4]
 by_cases c1:a0<1
 ·rw[if_pos c1,qg,if_pos (by simp),qkc,if_pos rfl,if_pos rfl,if_pos c1];rfl
 by_cases c2:256<a0
 ·rw[if_neg c1,if_pos c2,qg,if_pos (by simp),qkc,if_pos rfl,if_pos rfl,if_neg c1,qly,decide_eq_true c2]
 obtain⟨N,rfl⟩:=Int.eq_ofNat_of_zero_le (show 0≤a0 by omega)
 have e4:=qoi N (by omega) N 0 (by omega) big (by rw[qv];omega)
 have e5:=qoh N (by omega) N 0 (by omega) big (by rw[qv];omega)
 rw[if_neg c1,if_neg c2,qal,qe,show qiq (N:Int) (([]:List TDisk).length:Int) big 0 ([]++[⟨[],[],[],-1⟩])=_ from e4,qg,if_neg (by simp),if_neg (by omega),qkc,if_neg ff,zf (by simp),qa,M5,qal,qe,show qip (N:Int) (([]:List TDisk51).length:Int) big 0 ([]++[⟨[],[],[],[],-1⟩])=_ from e5,qe]
 rcases qej (qi6 N (by omega)) (by omega) [] [] [] (by simp) (by simp) with⟨d2,G',U',e,he,q1,q2⟩|⟨d2,g0,g1,hf,gen,v',q1,q2,q3,q4,q5,q6,q7,q8,q9⟩
 ·rw[q1,qu,show([]:List TLog122)=([]:List TLog).map rl from rfl,q2,qu,if_pos he,qlz,if_pos rfl,if_pos rfl];rfl
 ·rw[q1,qu,show([]:List TLog122)=([]:List TLog).map rl from rfl,q2,qu,if_neg (by simp),qlz,if_neg ff,if_neg (by simp),if_neg (by omega)]
  exact qfZ hF hl L.length 0 (by omega) big (by rw[qv];omega) _ _ _ _ [] [] _ _ _ _ _ (qjP q3 q4 q5 q6 q7 q8 q9 (by omega) (by simp) (by simp))
end
end Go.Proofs.YtloiiohoelhldaaGreatDoor
end
section
namespace Go.S
open Go.ChangeShapes Go.WideShapes Go.ChangeAt Go.RowKit
def Rz(P:Program)(w:World)(t:TypeId)(cs:List Value):Prop:=
 ∃(H:Type) (enc:TypeId×Value→H) (fuel:Nat) (held:Bool) (base:Nat) (x:DataW H×List MemPlace),DataW.trod enc P w base (fun _=>true) held fuel t cs=some x∧∀n∈x.1.weights P t,n≤reachBytes
section
variable{P:Program}{w:World}{t:TypeId}{cs:List Value}
theorem Rz.rd(h:Rz P w t cs):Rd P w t cs:=by
 obtain⟨H,enc,fuel,held,base,x,h,_⟩:=h
 exact⟨H,enc,fuel,held,base,x,h⟩
theorem Rz.of{H:Type}{enc:TypeId×Value→H}{v:Value}{d:DataW H}{ps:List MemPlace}{ts:List TypeId}{ds:List (DataW H)}(h:DataW.Trod enc P w 0 (fun _=>true) true t v d ps)(hz:(DataW.weightsEach P ts ds).all (·≤reachBytes)=true)(j:Nat)(ht:ts[j]?=some t)(hd:ds[j]?=some d):Rz P w t v.cells.toList:=by
 obtain⟨fuel,hf⟩:=h
 refine⟨H,enc,fuel,true,0,_,hf,fun n hn=>?_⟩
 have:=List.all_eq_true.1 hz n (DataW.weights_mem_each ht hd n hn)
 simpa using this
theorem ya{H:Type}{e:TypeId}:∀{l:List (DataW H)} {d:DataW H},d∈l→∀n∈d.weights P e,n∈DataW.weightsAll P e l
 | d0::l,d,h,n,hn=>by
  simp only[DataW.weightsAll,List.mem_append]
  rcases List.mem_cons.1 h with rfl|h
  ·exact Or.inl hn
  ·exact Or.inr (ya h n hn)
theorem Rz.str(ht:P.underlying t=some .string)(h:Rz P w t cs):∃l,cs=[st l]∧l.length≤reachBytes:=by
 obtain⟨H,enc,fuel,held,base,x,h,hz⟩:=h
 obtain⟨s,h1,h2,_⟩:=DataW.trod_string ht h
 refine⟨s.data.toList,by rw[h1];rfl,hz _ ?_⟩
 rw[h2]
 simp[DataW.weights]
theorem Rz.slice{e:TypeId}{k:Nat}(ht:P.underlying t=some (.slice e))(hk:P.cellsOf e=k)(h:Rz P w t cs):∃v rows,cs=[v]∧At w v k rows∧(∀r∈rows,Rz P w e r)∧rows.length*P.bytesOf e≤reachBytes:=by
 subst hk
 obtain⟨H,enc,fuel,held,base,x,h,hz⟩:=h
 rcases Go.Deep.open_slice ht h with⟨rfl,_⟩|⟨a,len,cap,m,n,D,Pl,rfl,hb,hl,hm,hmm,hx,hi⟩
 ·exact⟨_,[],rfl,At.nil w _,by simp,by simp⟩
 ·have hm':m=cap:=by simpa using hmm
  subst hm'
  rw[hx]at hz
  simp only[DataW.weights,ht]at hz
  have hrow:∀i:Fin len,∃cs',w.cells? base (a.add (i.val*P.cellsOf e)) (P.cellsOf e)=some cs'∧Rz P w e cs':=fun i=>by
   obtain⟨cs',h1,h2⟩:=hi i.val (by omega)
   refine⟨cs',h1,H,enc,n,held,base,_,h2,fun q hq=>hz q ?_⟩
   refine List.mem_cons_of_mem _ (List.mem_append_left _ (ya (d:=D i.val) ?_ q hq))
   exact List.mem_map.2 ⟨i.val,List.mem_range.2 i.isLt,rfl⟩
  let rows:=List.ofFn fun i:Fin len=>Classical.choose (hrow i)
  have hlen:rows.length=len:=List.length_ofFn
  have hget:∀(i:Nat) (r:List Value),rows[i]?=some r→w.cells? base (a.add (i*P.cellsOf e)) (P.cellsOf e)=some r∧Rz P w e r:=by
   intro i r hr
   obtain⟨hlt,he⟩:=List.getElem?_eq_some_iff.1 hr
   have hil:i<len:=by omega
   have hs:=Classical.choose_spec (hrow ⟨i,hil⟩)
   have:r=Classical.choose (hrow ⟨i,hil⟩):=by rw[←he];simp[rows]
   rw[this];exact hs
  refine⟨_,rows,rfl,⟨.inr ⟨a,m,by rw[hlen],by omega,hm⟩,fun r hr=>?_,fun i r j x hr hx=>?_⟩,fun r hr=>?_,?_⟩
  ·obtain⟨i,hi'⟩:=List.getElem?_of_mem hr
   exact(World.cells?_some (hget i r hi').1).2.1
  ·obtain⟨_,h2,h3⟩:=World.cells?_some (hget i r hr).1
   have hj:=(List.getElem?_eq_some_iff.1 hx).1
   rw[←add_add]
   exact(h3 j (by omega)).trans hx
  ·obtain⟨i,hi'⟩:=List.getElem?_of_mem hr
   exact(hget i r hi').2
  ·have:=hz _ (List.mem_cons_self ..)
   simp only[List.length_map,List.length_range]at this
   rw[hlen]
   refine Nat.le_trans (Nat.mul_le_mul_right _ ?_) this
   omega
theorem Rz.fld{fs:Array Field}(ht:P.underlying t=some (.struct fs))(h:Rz P w t cs)(i:Nat)(u:TypeId)(o c:Nat)(hi:(fs[i]?).map (fun f=>(f.type,f.offset))=some (u,o))(hc:P.cellsOf u=c):Rz P w u ((cs.drop o).take c):=by
 cases hf:fs[i]? with
 | none=>rw[hf]at hi;cases hi
 | some f =>
  rw[hf]at hi
  simp only[Option.map_some,Option.some.injEq,Prod.mk.injEq]at hi
  obtain⟨rfl,rfl⟩:=hi
  subst hc
  obtain⟨H,enc,fuel,held,base,x,h,hz⟩:=h
  obtain⟨xs,n,_,hxx,hl,hx,hfs⟩:=DataW.trod_struct ht h
  have h1:=hfs i f hf
  have hil:i<xs.length:=by rw[hx];exact(Array.getElem?_eq_some_iff.1 hf).1
  rw[List.getElem?_eq_getElem hil]at h1
  refine⟨H,enc,n,held,base,_,h1,fun q hq=>hz q ?_⟩
  rw[hxx]
  simp only[DataW.weights,ht]
  refine DataW.weights_mem_each (j:=i) (t:=f.type) (d:=xs[i].1) ?_ ?_ q hq
  ·rw[List.getElem?_map]
   simp[hf]
  ·rw[List.getElem?_map,List.getElem?_eq_getElem hil]
   rfl
end
end Go.S
end
section
namespace Go.Proofs.YtloiiohoelhldaaGreatDoor.storePlays
open Go.ChangeShapes Go.WideShapes Go.ChangeAt Go.RowKit Go.Proofs.YtloiiohoelhldaaGreatDoor
set_option maxRecDepth 100000
set_option maxHeartbeats 8000000
theorem j1:OpenClaim.wf (OpenSpec.ofChange Rows.storePlaysSpec) Rows.storePlaysRow=true:=by kernel_rfl
theorem j2:laidOutB Tryz.pinned.checked.prog=true:=by kernel_rfl
theorem j3:mapsRowed Tryz.pinned.checked.prog=true:=by kernel_rfl
theorem j4:(Tryz.f3.params.all fun x=>Tryz.pinned.checked.prog.readableRec x)=true:=by kernel_rfl
theorem j5:namedTie Tryz.pinned.checked.prog Rows.storePlaysRow.named Rows.storePlaysSpec.vars=true:=by kernel_rfl
theorem j6:(Rows.storePlaysRow.stops == [])=true:=by kernel_rfl
theorem j7:(Tryz.pinned.checked.prog.stops == [])=true:=by kernel_rfl
theorem j8:(Rows.storePlaysRow.knobs == [])=true:=by kernel_rfl
theorem j9:(Tryz.pinned.checked.prog.stopKnobs == [])=true:=by kernel_rfl
theorem j10:(Rows.storePlaysRow.inPlace == Tryz.pinned.checked.prog.inPlace 3)=true:=by kernel_rfl
theorem j11:(Rows.storePlaysRow.unfollowed == Tryz.pinned.checked.prog.unfollowed 3)=true:=by kernel_rfl
theorem j12:(Rows.storePlaysRow.recurses == Tryz.pinned.checked.prog.recurses 3)=true:=by kernel_rfl
theorem j13:(Rows.storePlaysRow.named == Tryz.pinned.checked.prog.varsNamed 3)=true:=by kernel_rfl
theorem j14:(Rows.storePlaysRow.maps == (Tryz.f3.params.toList++Rows.storePlaysSpec.plain.varTypes Tryz.pinned.checked.prog).any fun x=>Tryz.pinned.checked.prog.mapsRec x)=true:=by kernel_rfl
theorem j15:(Rows.storePlaysRow.ifaces == (Tryz.f3.params.toList++Rows.storePlaysSpec.plain.varTypes Tryz.pinned.checked.prog).any fun x=>Tryz.pinned.checked.prog.ifacesRec x)=true:=by kernel_rfl
theorem j16:(Rows.storePlaysRow.mapsOut == Tryz.pinned.checked.prog.mapsAmong Tryz.f3.resultTypes.toList)=true:=by kernel_rfl
theorem j17:(Rows.storePlaysRow.loops == (Tryz.f3.params.toList++Rows.storePlaysSpec.plain.varTypes Tryz.pinned.checked.prog).any fun x=>Tryz.pinned.checked.prog.loopsFrom x)=true:=by kernel_rfl
theorem j18:(Rows.storePlaysRow.wideKeys == (Tryz.f3.params.toList++Rows.storePlaysSpec.plain.varTypes Tryz.pinned.checked.prog++Tryz.f3.resultTypes.toList).any fun x=>Tryz.pinned.checked.prog.wideKeysFrom x)=true:=by kernel_rfl
theorem j19:(Rows.storePlaysSpec.vars.all fun x=>Tryz.pinned.checked.prog.varReadable x)=true:=by kernel_rfl
theorem j20:(Tryz.f3.resultTypes.all fun t=>Tryz.pinned.checked.prog.readableRec t&&decide (t<Tryz.pinned.checked.prog.types.size))=true:=by kernel_rfl
theorem j21:(Rows.storePlaysRow.ifacesOut == Tryz.f3.resultTypes.toList.any fun x=>Tryz.pinned.checked.prog.ifacesRec x)=true:=by kernel_rfl
theorem j22:(Rows.storePlaysRow.loopsOut == Tryz.f3.resultTypes.toList.any fun x=>Tryz.pinned.checked.prog.loopsFrom x)=true:=by kernel_rfl
theorem j23:(Rows.storePlaysRow.plainKeys == Tryz.pinned.checked.prog.plainKeys)=true:=by kernel_rfl
theorem j24:Rows.storePlaysRow.shortTexts.isNone=true:=by kernel_rfl
theorem j25:Tryz.pinned.checked.prog.stopsHeard=true:=by kernel_rfl
theorem j26:Tryz.pinned.checked.prog.mayEnter=true:=by kernel_rfl
theorem j27:(Rows.storePlaysRow.lifted == Tryz.pinned.checked.prog.liftsFinal)=true:=by kernel_rfl
theorem j28:(Tryz.pinned.checked.prog.make == some Rows.storePlaysRow.make)=true:=by kernel_rfl
theorem j29:(Rows.storePlaysRow.kinds == (if Rows.storePlaysRow.domain.isEmpty then[] else Tryz.f3.params.toList.map fun t=>match Tryz.pinned.checked.prog.underlying t with|some (.int k)=>some k|_=>none))=true:=by kernel_rfl
theorem j30:(Rows.storePlaysRow.pinned == Rows.storePlaysRow.pinnedBy)=true:=by kernel_rfl
theorem j31:(Rows.storePlaysRow.veiled == (Tryz.f3.params.toList++Rows.storePlaysSpec.plain.varTypes Tryz.pinned.checked.prog++Tryz.f3.resultTypes.toList).any fun x=>Tryz.pinned.checked.prog.veiledRec x)=true:=by kernel_rfl
theorem j32:Rows.storePlaysRow.veiledFits Tryz.pinned.checked.prog Tryz.f3.params.toList (Tryz.f3.params.toList++Rows.storePlaysSpec.plain.varTypes Tryz.pinned.checked.prog++Tryz.f3.resultTypes.toList)=true:=by kernel_rfl
theorem closed:joinedFacts Tryz.pinned.checked.prog 3 Tryz.f3 Rows.storePlaysSpec Rows.storePlaysRow=true:=by
 unfold joinedFacts
 simp only[Bool.and_eq_true]
 exact⟨⟨⟨⟨⟨⟨⟨⟨⟨⟨⟨⟨⟨⟨⟨⟨⟨⟨⟨⟨⟨⟨⟨⟨⟨⟨⟨⟨⟨⟨⟨j1,j2⟩,j3⟩,j4⟩,j5⟩,j6⟩,j7⟩,j8⟩,j9⟩,j10⟩,j11⟩,j12⟩,j13⟩,j14⟩,j15⟩,j16⟩,j17⟩,j18⟩,j19⟩,j20⟩,j21⟩,j22⟩,j23⟩,j24⟩,j25⟩,j26⟩,j27⟩,j28⟩,j29⟩,j30⟩,j31⟩,j32⟩
end Go.Proofs.YtloiiohoelhldaaGreatDoor.storePlays
end
