import Derived.Test.YtloiiohoelhldaaGreatDoorZp
set_option linter.unusedVariables false
set_option linter.unusedSimpArgs false
section
namespace Go.Proofs.YtloiiohoelhldaaGreatDoor
open Go.S
def Mt(a b:List Int):Prop:=∃k,k∈a∧k∈b
theorem qkN(a b:List Int)(ha:a.length≤1000)(hb:b.length≤1000):∀(r i:Nat),i+r=a.length→∀n,r<n→∃x,vX a b n (i:Int)=some x∧(x=true↔Mt (a.drop i) b):=by
 intro r
 induction r with
 | zero =>
  intro i hi n hn
  obtain⟨n,rfl⟩:=Nat.exists_eq_add_one.2 hn
  rw[vX,qcd,if_neg (by omega),List.drop_eq_nil_of_le (by omega)]
  exact⟨_,rfl,by simp[Mt]⟩
 | succ r ih =>
  intro i hi n hn
  obtain⟨n,rfl⟩:=Nat.exists_eq_add_one.2 (show 0<n by omega)
  have h1:i<a.length:=by omega
  rw[vX,qcd,if_pos (by omega),qp h1,qa,qez _ hb,qa,qfF,kh h1]
  by_cases c:a[i]∈b
  ·rw[if_pos (by simpa using c)]
   exact⟨_,rfl,⟨fun _=>⟨a[i],List.mem_cons_self,c⟩,fun _=>by simp⟩⟩
  ·rw[if_neg (by simpa using c),qD i (by omega),qa]
   obtain⟨x,g1,g2⟩:=ih (i+1) (by omega) n (by omega)
   refine⟨x,g1,g2.trans ⟨?_,?_⟩⟩
   ·rintro⟨k,h1,h2⟩
    exact⟨k,List.mem_cons_of_mem _ h1,h2⟩
   ·rintro⟨k,h1,h2⟩
    rcases List.mem_cons.1 h1 with rfl|h1
    ·exact absurd h2 c
    ·exact⟨k,h1,h2⟩
theorem qdL{a b:List Int}(ha:a.length≤1000)(hb:b.length≤1000):∃x,qki a b=some x∧(x=true↔Mt a b):=by
 obtain⟨x,h,h2⟩:=qkN a b ha hb a.length 0 (by omega) big (by rw[qv];omega)
 exact⟨x,by simpa [qki]using h,by simpa using h2⟩
structure qkk(t u:Ttx):Prop where
 w : ¬Mt t.writes_ u.writes_
 a:Mt t.reads_ u.writes_→u.out_=false∧¬Mt u.reads_ t.writes_
 b:Mt u.reads_ t.writes_→u.in_=false
section
variable{T:List TStore}{X:List Ttx}{s:Int}{S:TStore}
def Cnd(X:List Ttx)(t:Ttx)(L:List Int)(i0 o0:Bool):Prop:=
 (∀y∈L,∀u,idx X y=some u→t.from_<u.at_→qkk t u) ∧
 ((i0=true∨∃y∈L,∃u,idx X y=some u∧t.from_<u.at_∧Mt u.reads_ t.writes_)→(o0=true∨∃y∈L,∃u,idx X y=some u∧t.from_<u.at_∧Mt t.reads_ u.writes_)→False)
theorem Cnd.cons{t u:Ttx}{y:Int}{L:List Int}{b1 b2 c1 c2:Bool}(hu:idx X y=some u)(h1:c1=true↔b1=true∨(t.from_<u.at_∧Mt u.reads_ t.writes_))(h2:c2=true↔b2=true∨(t.from_<u.at_∧Mt t.reads_ u.writes_)) :
  Cnd X t (y::L) b1 b2↔(t.from_<u.at_→qkk t u)∧Cnd X t L c1 c2:=by
 have hs:∀u',idx X y=some u'→u'=u:=fun u' h=>by rw[hu]at h;exact(Option.some.inj h).symm
 unfold Cnd
 constructor
 ·rintro⟨f,b⟩
  refine⟨f y List.mem_cons_self u hu,fun z hz=>f z (List.mem_cons_of_mem _ hz),fun p q=>b ?_ ?_⟩
  ·rcases p with p|⟨z,hz,v,hv⟩
   ·exact(h1.1 p).imp id fun k=>⟨y,List.mem_cons_self,u,hu,k⟩
   ·exact .inr ⟨z,List.mem_cons_of_mem _ hz,v,hv⟩
  ·rcases q with q|⟨z,hz,v,hv⟩
   ·exact(h2.1 q).imp id fun k=>⟨y,List.mem_cons_self,u,hu,k⟩
   ·exact .inr ⟨z,List.mem_cons_of_mem _ hz,v,hv⟩
 ·rintro⟨f0,f,b⟩
  refine⟨fun z hz v hv hl=>?_,fun p q=>b ?_ ?_⟩
  ·rcases List.mem_cons.1 hz with rfl|hz
   ·obtain rfl:=hs v hv;exact f0 hl
   ·exact f z hz v hv hl
  ·rcases p with p|⟨z,hz,v,hv,k⟩
   ·exact .inl (h1.2 (.inl p))
   ·rcases List.mem_cons.1 hz with rfl|hz
    ·obtain rfl:=hs v hv;exact .inl (h1.2 (.inr k))
    ·exact .inr ⟨z,hz,v,hv,k⟩
  ·rcases q with p|⟨z,hz,v,hv,k⟩
   ·exact .inl (h2.2 (.inl p))
   ·rcases List.mem_cons.1 hz with rfl|hz
    ·obtain rfl:=hs v hv;exact .inl (h2.2 (.inr k))
    ·exact .inr ⟨z,hz,v,hv,k⟩
abbrev qoI:=Option (List Int×List Int×Bool)
def qlk(X:List Ttx)(t:Ttx)(x:Int):Prop:=∃u,idx X x=some u∧t.from_<u.at_∧Mt t.reads_ u.writes_
def qhI(X:List Ttx)(t:Ttx)(x:Int):Prop:=∃u,idx X x=some u∧t.from_<u.at_∧Mt u.reads_ t.writes_
def Out(S:TStore)(X:List Ttx)(t:Ttx)(L ins outs:List Int)(i0 o0:Bool)(r:qoI):Prop:=∃ins' outs' b,r=some (ins',outs',b)∧(∀x∈ins',x∈S.over_)∧(∀x∈outs',x∈S.over_)∧ins'.length≤S.over_.length∧outs'.length≤S.over_.length∧(b=true↔Cnd X t L i0 o0) ∧
 (b=true→(∀x,x∈ins'↔x∈ins∨(x∈L∧qlk X t x))∧∀x,x∈outs'↔x∈outs∨(x∈L∧qhI X t x))
theorem Out.no{t:Ttx}{L ins outs:List Int}{i0 o0:Bool}(h : ¬Cnd X t L i0 o0):Out S X t L ins outs i0 o0 (some ([],[],false)):=⟨[],[],false,rfl,by simp,by simp,by simp,by simp,⟨fun h=>(by cases h),fun h'=>absurd h' h⟩,fun h=>by cases h⟩
theorem ql5(hs:idx T s=some S)(h:StOk S X){a:Int}{t:Ttx}(ha:idx X a=some t)(htk:TxOk S.now_ t)(hao:a∉S.over_):∀(r i:Nat),i+r=S.over_.length→∀n,r<n→∀(ins outs:List Int) (b1 b2:Bool),(∀x∈ins,x∈S.over_)→(∀x∈outs,x∈S.over_)→ins.length≤i→outs.length≤i →
  Out S X t (S.over_.drop i) ins outs b1 b2 (kr S X a n ins outs b1 b2 (i:Int)):=by
 have hol:=h.ol
 have hn1:=h.n1
 intro r
 induction r with
 | zero =>
  intro i hi n hn ins outs b1 b2 h1 h2 h3 h4
  obtain⟨n,rfl⟩:=Nat.exists_eq_add_one.2 hn
  rw[kr,qfg,if_neg (by omega),qjr,List.drop_eq_nil_of_le (by omega)]
  have hm:∀b:Bool,(b=true↔¬(b1=true∧b2=true))→Out S X t [] ins outs b1 b2 (some (ins,outs,b)):=fun b hb=>⟨_,_,_,rfl,h1,h2,by omega,by omega,hb.trans (by simp[Cnd]),fun _=>by simp⟩
  cases b1<;>cases b2<;>exact hm _ (by simp)
 | succ r ih =>
  intro i hi n hn ins outs b1 b2 h1 h2 h3 h4
  obtain⟨n,rfl⟩:=Nat.exists_eq_add_one.2 (show 0<n by omega)
  have hio:i<S.over_.length:=by omega
  obtain⟨u,hu,huk⟩:=h.ov S.over_[i] (List.getElem_mem hio)
  have hne:a≠S.over_[i]:=fun e=>hao (by rw[e];exact List.getElem_mem hio)
  rw[kr,qfg,if_pos (by omega),qp hio,qa,hu,qa,ha,qa,zf hne,qa]
  have hself:∀y u',y=S.over_[i]→idx X y=some u'→u'=u:=fun y u' e hy=>by rw[e,hu]at hy;exact(Option.some.inj hy).symm
  have next:∀(ins' outs':List Int) (c1 c2:Bool),(∀x∈ins',x∈S.over_)→(∀x∈outs',x∈S.over_)→ins'.length≤i+1→outs'.length≤i+1→(∀x,x∈ins'↔x∈ins∨(x=S.over_[i]∧t.from_<u.at_∧Mt t.reads_ u.writes_))→(∀x,x∈outs'↔x∈outs∨(x=S.over_[i]∧t.from_<u.at_∧Mt u.reads_ t.writes_)) →
    (t.from_<u.at_→qkk t u)→(c1=true↔b1=true∨(t.from_<u.at_∧Mt u.reads_ t.writes_))→(c2=true↔b2=true∨(t.from_<u.at_∧Mt t.reads_ u.writes_)) →
    Out S X t (S.over_.drop i) ins outs b1 b2 (qb (i64 ((i:Int)+1)) fun x=>kr S X a n ins' outs' c1 c2 x):=by
   intro ins' outs' c1 c2 g1 g2 g3 g4 g5 g6 g7 g10 g11
   rw[qD i (by omega),qa]
   obtain⟨i2,o2,b,e1,e2,e3,e4,e5,e6,e7⟩:=ih (i+1) (by omega) n (by omega) ins' outs' c1 c2 g1 g2 g3 g4
   refine⟨i2,o2,b,e1,e2,e3,e4,e5,?_,fun hb=>?_⟩
   ·rw[kh hio,Cnd.cons hu g10 g11,e6]
    exact⟨fun k=>⟨g7,k⟩,fun k=>k.2⟩
   ·obtain⟨k1,k2⟩:=e7 hb
    rw[kh hio]
    constructor
    ·intro x
     rw[k1 x,g5 x,List.mem_cons]
     constructor
     ·rintro((p|⟨rfl,p⟩)|⟨p,q⟩)
      ·exact .inl p
      ·exact .inr ⟨.inl rfl,u,hu,p⟩
      ·exact .inr ⟨.inr p,q⟩
     ·rintro(p|⟨p|p,q⟩)
      ·exact .inl (.inl p)
      ·obtain⟨v,hv,q⟩:=q
       obtain rfl:=hself x v p hv
       exact .inl (.inr ⟨p,q⟩)
      ·exact .inr ⟨p,q⟩
    ·intro x
     rw[k2 x,g6 x,List.mem_cons]
     constructor
     ·rintro((p|⟨rfl,p⟩)|⟨p,q⟩)
      ·exact .inl p
      ·exact .inr ⟨.inl rfl,u,hu,p⟩
      ·exact .inr ⟨.inr p,q⟩
     ·rintro(p|⟨p|p,q⟩)
      ·exact .inl (.inl p)
      ·obtain⟨v,hv,q⟩:=q
       obtain rfl:=hself x v p hv
       exact .inl (.inr ⟨p,q⟩)
      ·exact .inr ⟨p,q⟩
  by_cases hat:u.at_≤t.from_
  ·rw[if_pos hat]
   have hn : ¬t.from_<u.at_:=by omega
   exact next ins outs b1 b2 h1 h2 (by omega) (by omega) (fun x=>by simp[hn]) (fun x=>by simp[hn]) (fun q=>absurd q hn) (by simp[hn]) (by simp[hn])
  ·rw[if_neg hat]
   have hlt:t.from_<u.at_:=by omega
   have no : ¬qkk t u→Out S X t (S.over_.drop i) ins outs b1 b2 (some ([],[],false)):=fun hf=>.no fun k=>hf (k.1 S.over_[i] (by rw[kh hio];exact List.mem_cons_self) u hu hlt)
   have hin:S.over_[i]∈S.over_:=List.getElem_mem hio
   have e1:∀x∈ins++[S.over_[i]],x∈S.over_:=fun x hx=>by
    rcases List.mem_append.1 hx with hx|hx
    ·exact h1 x hx
    ·rw[List.mem_singleton.1 hx];exact hin
   have e2:∀x∈outs++[S.over_[i]],x∈S.over_:=fun x hx=>by
    rcases List.mem_append.1 hx with hx|hx
    ·exact h2 x hx
    ·rw[List.mem_singleton.1 hx];exact hin
   have k2:∀(A B:Bool),(A=true↔Mt t.reads_ u.writes_)→(B=true↔Mt u.reads_ t.writes_)→Out S X t (S.over_.drop i) ins outs b1 b2 (qc7 X a S.over_[i] ins outs b2 b1 (i:Int) (kr S X a n) A B):=by
    intro A B hA hB
    obtain⟨W,hW,hW2⟩:=qdL (a:=t.writes_) (b:=u.writes_) (by have:=htk.w.1;omega) (by have:=huk.w.1;omega)
    rw[qc7,ha,qa,hu,qa,hW,qa,qh huk.t20,qa]
    have k5:qkk t u→∀(ins' outs':List Int),(∀x∈ins',x∈S.over_)→(∀x∈outs',x∈S.over_)→ins'.length≤i+1→outs'.length≤i+1→(∀x,x∈ins'↔x∈ins∨(x=S.over_[i]∧A=true))→(∀x,x∈outs'↔x∈outs∨(x=S.over_[i]∧B=true)) →
      Out S X t (S.over_.drop i) ins outs b1 b2 (qgg b2 b1 (i:Int) (kr S X a n) ins' B A outs'):=by
     intro hf ins' outs' q1 q2 q3 q4 q5 q6
     have fin:∀c1 c2:Bool,(c1=true↔b1=true∨B=true)→(c2=true↔b2=true∨A=true)→Out S X t (S.over_.drop i) ins outs b1 b2 (qb (i64 ((i:Int)+1)) fun x=>kr S X a n ins' outs' c1 c2 x):=fun c1 c2 p1 p2 =>
      next ins' outs' c1 c2 q1 q2 q3 q4 (fun x=>by rw[q5 x,hA];simp[hlt]) (fun x=>by rw[q6 x,hB];simp[hlt]) (fun _=>hf) (by rw[p1,hB];simp[hlt]) (by rw[p2,hA];simp[hlt])
     simp only[qgg,qgf,qge,qgd]
     cases b1<;>cases b2<;>cases A<;>cases B<;>simp only[if_true,Bool.false_eq_true,if_false]<;>exact fin _ _ (by simp) (by simp)
    have k3:qkk t u→Out S X t (S.over_.drop i) ins outs b1 b2 (qhW A ins S.over_[i] B outs b2 b1 (i:Int) (kr S X a n)):=by
     intro hf
     simp only[qhW,qhV]
     rw[qE (by simp;omega),qa,qE (by simp;omega)]
     simp only[qa]
     split
     ·rename_i hA1
      split
      ·rename_i hB1
       exact k5 hf _ _ e1 e2 (by simp;omega) (by simp;omega) (fun x=>by simp[hA1]) (fun x=>by simp[hB1])
      ·rename_i hb
       exact k5 hf _ _ e1 h2 (by simp;omega) (by omega) (fun x=>by simp[hA1]) (fun x=>by simp[hb])
     ·rename_i hna
      split
      ·rename_i hB1
       exact k5 hf _ _ h1 e2 (by omega) (by simp;omega) (fun x=>by simp[hna]) (fun x=>by simp[hB1])
      ·rename_i hb
       exact k5 hf _ _ h1 h2 (by omega) (by omega) (fun x=>by simp[hna]) (fun x=>by simp[hb])
    have k9:(Mt t.reads_ u.writes_→u.out_=false∧¬Mt u.reads_ t.writes_)→¬Mt t.writes_ u.writes_→Out S X t (S.over_.drop i) ins outs b1 b2 (qae B u A ins S.over_[i] outs b2 b1 (i:Int) (kr S X a n) false):=by
     intro f1 f2
     rw[qae,qh huk.t20,qa]
     simp only[Bool.false_eq_true,if_false]
     split
     ·rename_i hb
      split
      ·rename_i hi2
       rw[wI,if_pos rfl];exact no fun hf=>by have:=hf.b (hB.1 hb);rw[hi2]at this;cases this
      ·rename_i hi
       rw[wI,if_neg (by simp)]
       exact k3 ⟨f2,f1,fun _=>by simpa using hi⟩
     ·rename_i hb
      rw[wI,if_neg (by simp)]
      exact k3 ⟨f2,f1,fun hm=>absurd (hB.2 hm) hb⟩
    have k9t : ¬qkk t u→Out S X t (S.over_.drop i) ins outs b1 b2 (qae B u A ins S.over_[i] outs b2 b1 (i:Int) (kr S X a n) true):=by
     intro hf
     rw[qae,if_pos rfl];exact no hf
    split
    ·rename_i hw
     exact k9t fun hf=>hf.w (hW2.1 hw)
    ·rename_i hw
     have hw' : ¬Mt t.writes_ u.writes_:=fun q=>hw (hW2.2 q)
     split
     ·rename_i hA1
      split
      ·rename_i ho
       exact k9t fun hf=>by have:=(hf.a (hA.1 hA1)).1;rw[ho]at this;cases this
      ·rename_i ho
       split
       ·rename_i hB1
        exact k9t fun hf=>(hf.a (hA.1 hA1)).2 (hB.1 hB1)
       ·rename_i hB1
        exact k9 (fun _=>⟨by simpa using ho,fun q=>hB1 (hB.2 q)⟩) hw'
     ·rename_i hA1
      exact k9 (fun q=>absurd (hA.2 q) hA1) hw'
   obtain⟨A,hA1,hA2⟩:=qdL (a:=t.reads_) (b:=u.writes_) (by have:=htk.r.1;omega) (by have:=huk.w.1;omega)
   obtain⟨B,hB1,hB2⟩:=qdL (a:=u.reads_) (b:=t.writes_) (by have:=huk.r.1;omega) (by have:=htk.w.1;omega)
   rw[hA1,qa,hB1]
   simp only[qa]
   cases A<;>cases B<;>simp only[if_true,Bool.false_eq_true,if_false]<;>exact k2 _ _ hA2 hB2
theorem ql4(hs:idx T s=some S)(h:StOk S X){a:Int}{t:Ttx}(ha:idx X a=some t)(htk:TxOk S.now_ t)(hao:a∉S.over_):∃ins outs b,M59 s a T X=some (ins,outs,b)∧(∀x∈ins,x∈S.over_)∧(∀x∈outs,x∈S.over_)∧ins.length≤S.over_.length∧outs.length≤S.over_.length∧(b=true↔Cnd X t S.over_ false false) ∧
  (b=true→(∀x,x∈ins↔x∈S.over_∧qlk X t x)∧∀x,x∈outs↔x∈S.over_∧qhI X t x):=by
 have hol:=h.ol
 have hn1:=h.n1
 obtain⟨i,o,b,e1,e2,e3,e4,e5,e6,e7⟩:=ql5 hs h ha htk hao S.over_.length 0 (by omega) big (by rw[qv];omega) [] [] false false (by simp) (by simp) (by simp) (by simp)
 rw[M59,hs,qa,qh h.lg,qa,qh h.it,qa]
 rw[List.drop_zero]at e6 e7
 exact⟨i,o,b,e1,e2,e3,e4,e5,e6,fun hb=>by simpa using e7 hb⟩
end
end Go.Proofs.YtloiiohoelhldaaGreatDoor
end
section
namespace Go.Proofs.YtloiiohoelhldaaGreatDoor
open Go.S
def vis(l:List TVersion)(s:Int):List TVersion:=l.filter fun v=>decide (v.At≤s)
def rdv(l:List TVersion)(s:Int):List UInt8:=((vis l s).getLast?.map (·.Text)).getD []
theorem qdM(l:List TVersion)(s:Int):∀i,i≤l.length→(vis (l.take i) s).getLast?=if lst l s i<0 then none else l[(lst l s i).toNat]?
 | 0,_=>by simp[vis,lst]
 | i+1,h=>by
  have hi:i<l.length:=by omega
  rw[List.take_succ_eq_append_getElem hi,wY s hi]
  unfold vis
  rw[List.filter_append]
  by_cases c:l[i].At≤s
  ·rw[if_pos c,if_neg (by omega)]
   simp[c]
  ·rw[if_neg c]
   have:=qdM l s i (by omega)
   unfold vis at this
   simp[c,this]
theorem qky(l:List TVersion)(s:Int)(hl:l.length≤1000):∃b,M58 l s=some (rdv l s,b):=by
 have h1:=qnj l s hl l.length 0 (by omega) big (by rw[qv];omega)
 have h2:=qdM l s l.length (Nat.le_refl _)
 rw[List.take_length]at h2
 have h3:=qhb l s l.length
 have e0:lst l s 0=-1:=rfl
 rw[e0,show((0:Nat):Int)=0 from rfl]at h1
 rw[M58,h1,qhX]
 unfold rdv
 by_cases c:lst l s l.length<0
 ·rw[if_pos c]at h2 ⊢
  rw[h2]
  exact⟨false,rfl⟩
 ·rw[if_neg c]at h2 ⊢
  obtain⟨x,hx⟩:=qey (l:=l) (a:=lst l s l.length) (by omega) (by omega)
  rw[h2,(qf hx).2.2,hx,qa]
  exact⟨true,rfl⟩
theorem qiS{α:Type}{l l':List α}{z:α}(hs:l'.Sublist l)(hz:l.getLast?=some z)(hm:z∈l')(hn:l.Nodup):l'.getLast?=some z:=by
 obtain⟨l0,rfl⟩:=List.getLast?_eq_some_iff.1 hz
 obtain⟨a,b,rfl,ha,hb⟩:=List.sublist_append_iff.1 hs
 rw[List.nodup_append]at hn
 have hz0:z∉l0:=fun h=>hn.2.2 z h z (List.mem_singleton.2 rfl) rfl
 rcases b with _|⟨w,b⟩
 ·rw[List.append_nil]at hm
  exact absurd (ha.subset hm) hz0
 ·have h1:=hb.length_le
  have h2:=hb.subset (List.mem_cons_self (a:=w) (l:=b))
  rw[List.length_cons,List.length_singleton]at h1
  have h3:b=[]:=List.eq_nil_of_length_eq_zero (by omega)
  subst h3
  rw[List.mem_singleton.1 h2]
  simp
theorem qex(l:List TVersion)(c:Nat→Bool):∀r i j (h:j<l.length),i≤j→j<i+r→c j=true→l[j]∈vY l c r i
 | 0,i,j,h,h1,h2,_=>by omega
 | r+1,i,j,h,h1,h2,hc=>by
  have hi:i<l.length:=by omega
  rw[jv c r hi]
  by_cases e:i=j
  ·subst e
   rw[if_pos hc]
   exact List.mem_cons_self
  ·have:=qex l c r (i+1) j h (by omega) (by omega) hc
   split
   ·exact List.mem_cons_of_mem _ this
   ·exact this
theorem qck{l:List TVersion}(h:xx l):l.Nodup:=by
 have:=xc.1 h
 exact this.imp fun h e=>by rw[e]at h;omega
theorem qkp(x:List TVersion)(s:Int):vis (x.map incV) (s+1)=(vis x s).map incV:=by
 unfold vis
 rw[List.filter_map]
 congr 1
 apply List.filter_congr
 intro v _
 show decide (v.At+1≤s+1)=decide (v.At≤s)
 exact decide_eq_decide.2 (by omega)
theorem qkq(x:List TVersion)(s:Int):vis (x.map decV) s=(vis x (s+1)).map decV:=by
 unfold vis
 rw[List.filter_map]
 congr 1
 apply List.filter_congr
 intro v _
 show decide (v.At-1≤s)=decide (v.At≤s+1)
 exact decide_eq_decide.2 (by omega)
theorem qdN{x:List TVersion}{b:List Int}{now s:Int}(hv:Vs now x)(hs:s∈b∨s=now):rdv (left x b now) s=rdv x s:=by
 unfold left
 by_cases c:1<x.length
 ·rw[if_pos c]
  have hxl:(x.map incV).length=x.length:=by simp
  have hso:=wl hv.s
  have hsub:=wZ (x.map incV) (wk (x.map incV) (b.map (·+1)++[now+1])) x.length 0
  rw[List.drop_zero]at hsub
  have hmem:s+1∈b.map (·+1)++[now+1]:=by
   rcases hs with h|h
   ·exact List.mem_append_left _ (List.mem_map.2 ⟨s,h,rfl⟩)
   ·exact List.mem_append_right _ (by rw[h];simp)
  have hl:=qdM (x.map incV) (s+1) (x.map incV).length (Nat.le_refl _)
  rw[List.take_length]at hl
  have hlt:=qhb (x.map incV) (s+1) (x.map incV).length
  have key:(vis (vY (x.map incV) (wk (x.map incV) (b.map (·+1)++[now+1])) x.length 0) (s+1)).getLast?=(vis (x.map incV) (s+1)).getLast?:=by
   have hvs:(vis (vY (x.map incV) (wk (x.map incV) (b.map (·+1)++[now+1])) x.length 0) (s+1)).Sublist (vis (x.map incV) (s+1)):=hsub.filter _
   by_cases cl:lst (x.map incV) (s+1) (x.map incV).length<0
   ·rw[if_pos cl]at hl
    rw[hl]
    have h0:vis (x.map incV) (s+1)=[]:=List.getLast?_eq_none_iff.1 hl
    rw[h0]at hvs
    rw[List.sublist_nil.1 hvs];rfl
   ·rw[if_neg cl]at hl
    have hj:(lst (x.map incV) (s+1) (x.map incV).length).toNat<(x.map incV).length:=by omega
    rw[List.getElem?_eq_getElem hj]at hl
    rw[hl]
    refine qiS hvs hl ?_ ((qck hso).filter _)
    have hz:=List.mem_of_getLast? hl
    refine List.mem_filter.2 ⟨?_,(List.mem_filter.1 hz).2⟩
    refine qex _ _ x.length 0 _ hj (Nat.zero_le _) (by omega) ?_
    refine decide_eq_true ⟨s+1,hmem,by omega⟩
  unfold rdv
  rw[qkq,List.getLast?_map,key,qkp,List.getLast?_map,Option.map_map,Option.map_map]
  rfl
 ·rw[if_neg c]
section
variable{T:List TStore}{X:List Ttx}{s:Int}{S:TStore}
theorem qi7{L:List Int}(hL:Txs X S.now_ L)(hl:L.length≤1000):∀(r i:Nat),i+r=L.length→∀n,r<n→∀(b:List Int) (f:Int),b.length≤i→(∀k∈b,0≤k∧k≤S.now_)→(∀x∈L.take i,∀t,idx X x=some t→t.from_∈b∧f≤t.from_)→f≤S.now_ →
  ∃b' f',qbD L X S T s n b (i:Int) f=qgc S X T s L b' f'∧b'.length≤L.length∧(∀k∈b',0≤k∧k≤S.now_)∧(∀x∈L,∀t,idx X x=some t→t.from_∈b'∧f'≤t.from_)∧f'≤S.now_:=by
 intro r
 induction r with
 | zero =>
  intro i hi n hn b f hb hb2 hb3 hf
  obtain⟨n,rfl⟩:=Nat.exists_eq_add_one.2 hn
  rw[List.take_of_length_le (by omega)]at hb3
  exact⟨b,f,by rw[qbD,qe0,if_neg (by omega)],by omega,hb2,hb3,hf⟩
 | succ r ih =>
  intro i hi n hn b f hb hb2 hb3 hf
  obtain⟨n,rfl⟩:=Nat.exists_eq_add_one.2 (show 0<n by omega)
  have h1:i<L.length:=by omega
  obtain⟨t,ht,hk⟩:=hL L[i] (List.getElem_mem h1)
  rw[qbD,qe0,if_pos (by omega),qp h1,qa,ht,qa,qE (by simp;omega),qa,qD i (by omega),qa]
  refine ih (i+1) (by omega) n (by omega) _ _ (by simp;omega) (fun k hk2=>?_) (fun x hx u hu=>?_) (by omega)
  ·rcases List.mem_append.1 hk2 with hk2|hk2
   ·exact hb2 k hk2
   ·rw[List.mem_singleton.1 hk2]
    exact⟨hk.f0,hk.f1⟩
  ·rw[List.take_succ_eq_append_getElem h1]at hx
   rcases List.mem_append.1 hx with hx|hx
   ·have:=hb3 x hx u hu
    exact⟨List.mem_append_left _ this.1,by omega⟩
   ·rw[List.mem_singleton.1 hx,ht,Option.some.injEq]at hu
    subst hu
    exact⟨List.mem_append_right _ (List.mem_singleton.2 rfl),by omega⟩
theorem qhz(hs:idx T s=some S){a:Int}(h:qkl S X a):∃b f,b.length≤12∧f≤S.now_∧(∀x∈S.active_,x≠a→∀t,idx X x=some t→t.from_∈b∧f≤t.from_) ∧
  M60 s a T X=some (T.set s.toNat ⟨S.logs_,S.half_,S.gen_,S.down_,S.now_,S.items_.map (fun x=>left x b S.now_),S.active_.filter (fun x=>!(decide (x=a))),S.over_.filter fun x=>!(decide ((qfL X x).at_≤f))⟩):=by
 obtain⟨u,hu⟩:=h.a
 have hn0:=h.n0
 have hn1:=h.n1
 have ha12:=h.a12
 have hfl:=List.length_filter_le (fun x=>!(decide (x=a))) S.active_
 have hac:Txs X S.now_ (S.active_.filter fun x=>!(decide (x=a))):=fun x hx=>h.ac x (List.mem_filter.1 hx).1
 obtain⟨b,f,g1,g2,g3,g4,g5⟩:=qi7 (T:=T) (s:=s) hac (by omega) (S.active_.filter fun x=>!(decide (x=a))).length 0 (by omega) big (by rw[qv];omega) [] S.now_ (by simp) (by simp) (by simp) (Int.le_refl _)
 refine⟨b,f,by omega,g5,fun x hx hne t ht=>g4 x (List.mem_filter.2 ⟨hx,by simp[hne]⟩) t ht,?_⟩
 have e1:M60 s a T X=qd5 X S T s (S.active_.filter fun x=>!(decide (x=a))):=by
  rw[M60,hs,qa,qh h.lg,qa,qh h.it,qa]
  refine qhA (F1:=fun n i=>vI S X a T s n i) (F:=fun n l i j=>qbC X a S T s n l i j) (z:=-1) (by omega) (K:=fun l=>qd5 X S T s l) ?_ ?_ ?_ ?_
  ·intro n l i hl
   simp only[qbC,qeZ]
   rw[if_neg (by omega),qfb]
  ·intro n l i j hj hl hm
   obtain⟨t,ht,_⟩:=h.ac _ hm
   simp only[qbC,qeZ]
   rw[if_pos (by omega),qp hj,qa,ht,qa,hu,qa,qfa]
  ·intro n
   simp only[vI,qbJ]
   rw[if_neg (by omega),qe9,qaQ,if_pos rfl]
  ·intro n i hi
   obtain⟨t,ht,_⟩:=h.ac _ (List.getElem_mem hi)
   simp only[vI,qbJ]
   rw[if_pos (by omega),qp hi,qa,ht,qa,hu,qa,qe8]
   by_cases c:S.active_[i]=a
   ·rw[if_pos (by simpa using c),if_neg (by simpa using c),qaQ,if_neg (by omega)]
   ·rw[if_neg (by simpa using c),if_pos (by simpa using c)]
 rw[e1,qd5]
 rw[show((0:Nat):Int)=0 from rfl]at g1
 rw[g1,qkI h.ov h.ol,qd4]
 have:=qfV h.vs h.it hs hn0 (by omega) (b:=b) (by omega) g3 (S.active_.filter fun x=>!(decide (x=a))) (S.over_.filter fun x=>!(decide ((qfL X x).at_≤f))) 20 0 (by omega) big (by rw[qv];omega)
 simpa using this
end
end Go.Proofs.YtloiiohoelhldaaGreatDoor
end
section
namespace Go.Proofs.YtloiiohoelhldaaGreatDoor
open Go.S
theorem qiu{l:List Int}(h:l.length<4611686018427387904):qfI l=some (srt l):=if_pos h
theorem qdA{l:List Int}{x:Int}:x∈srt l↔x∈l:=by unfold srt;exact List.mem_mergeSort
theorem qei(l:List Int):(srt l).Perm l:=by unfold srt;exact List.mergeSort_perm l _
theorem qlT(l:List Int):(srt l).Pairwise (·≤·):=by
 have h:=List.pairwise_mergeSort (le:=fun x y:Int=>decide (x≤y)) (fun a b c h1 h2=>by simp only[decide_eq_true_eq]at *;omega) (fun a b=>by simp only[Bool.or_eq_true,decide_eq_true_eq];omega) l
 exact h.imp fun h=>by simpa using h
theorem qlS{l:List Int}(h:l.Nodup):(srt l).Pairwise (· < ·):=by
 have h1:=qlT l
 have h2:(srt l).Nodup:=(qei l).nodup_iff.2 h
 exact(List.pairwise_and_iff.2 ⟨h1,h2⟩).imp fun {a b} h=>by have h3:a≠b:=h.2;have h4:=h.1;omega
theorem qaE:∀{a b:List Int},a.Pairwise (· < ·)→b.Pairwise (· < ·)→(∀x,x∈a↔x∈b)→a=b
 | [],[],_,_,_=>rfl
 | [],y::b,_,_,h=>by have:=(h y).2 List.mem_cons_self;simp at this
 | x::a,[],_,_,h=>by have:=(h x).1 List.mem_cons_self;simp at this
 | x::a,y::b,ha,hb,h=>by
  rw[List.pairwise_cons]at ha hb
  have hxy:x=y:=by
   rcases List.mem_cons.1 ((h x).1 List.mem_cons_self)with e|e
   ·exact e
   ·rcases List.mem_cons.1 ((h y).2 List.mem_cons_self)with e2|e2
    ·exact e2.symm
    ·have h1:=hb.1 x e;have h2:=ha.1 y e2;omega
  subst hxy
  rw[qaE ha.2 hb.2 fun z=>⟨fun hz=>?_,fun hz=>?_⟩]
  ·rcases List.mem_cons.1 ((h z).1 (List.mem_cons_of_mem _ hz))with e|e
   ·subst e;exact absurd (ha.1 z hz) (by omega)
   ·exact e
  ·rcases List.mem_cons.1 ((h z).2 (List.mem_cons_of_mem _ hz))with e|e
   ·subst e;exact absurd (hb.1 z hz) (by omega)
   ·exact e
abbrev Pairs:=List (Int×List UInt8)
def pr(k:Int)(t:List UInt8):List UInt8:=pI k++pT t
def prs(ps:Pairs):List UInt8:=ps.flatMap fun p=>pr p.1 p.2
def qad(p:Int×List UInt8):Prop:=0≤p.1∧p.1<20∧p.2.length≤20
theorem qcs{p:Int×List UInt8}(h:qad p):(pr p.1 p.2).length≤40:=by
 obtain⟨h0,h1,h2⟩:=h
 have a1:=jg (k:=p.1) ⟨by omega,by omega⟩
 have a3:=qgZ p.2
 unfold pr
 simp only[List.length_append]
 omega
theorem qgV:∀{ps:Pairs},(∀p∈ps,qad p)→(prs ps).length≤40*ps.length
 | [],_=>by simp[prs]
 | p::ps,h=>by
  have h1:=qcs (h p List.mem_cons_self)
  have h2:=qgV (ps:=ps) fun q hq=>h q (List.mem_cons_of_mem _ hq)
  have:prs (p::ps)=pr p.1 p.2++prs ps:=rfl
  rw[this,List.length_append,List.length_cons]
  omega
theorem qbe{p:Int×List UInt8}(h:qad p):M65 p.1 p.2=some (pr p.1 p.2)∧M70 p.1 p.2=some (pr p.1 p.2):=by
 obtain⟨h0,h1,h2⟩:=h
 have hI:I64 p.1:=⟨by omega,by omega⟩
 have a1:=jg hI
 have a3:=qgZ p.2
 constructor
 ·rw[M65,qgY (by omega),qe,yj hI,qa,qC (by omega),qa];rfl
 ·rw[M70,qcw hI,qa,qjN (by omega),qa,qC (by omega),qa];rfl
def zj(t:Ttx)(k:Int):List UInt8:=t.texts_.getD k.toNat []
theorem xh{t:Ttx}{now k:Int}(h:TxOk now t)(h0:0≤k)(h1:k<20):zd 20 t.texts_ k=some (zj t k)∧(zj t k).length≤20∧t.texts_[k.toNat]?=some (zj t k):=by
 have h20:=h.t20
 have hl:k.toNat<t.texts_.length:=by omega
 have e:t.texts_[k.toNat]?=some (zj t k):=by
  rw[zj,List.getD_eq_getElem?_getD,List.getElem?_eq_getElem hl];rfl
 refine⟨?_,h.tl _ (List.mem_of_getElem? e),e⟩
 rw[zd,if_pos (by omega),idx,if_pos h0,e]
def qes(t:Ttx)(ks:List Int):Pairs:=ks.map fun k=>(k,zj t k)
theorem qkD(a b:Pairs):prs (a++b)=prs a++prs b:=by simp[prs,List.flatMap_append]
section
variable{T:List TStore}{X:List Ttx}{s a:Int}{S:TStore}{D:List TDisk}{G:List TLog}{t:Ttx}
theorem qhd(ha:idx X a=some t)(ht:TxOk S.now_ t){L:List Int}(hL:∀k∈L,0≤k∧k<20)(hl:L.length≤20):∀(r i:Nat),i+r=L.length→∀n,r<n→qbB L X a S D G s T n (67::prs (qes t (L.take i))) (i:Int)=qhP S D G s T (67::prs (qes t L)):=by
 have hps:∀ks:List Int,(∀k∈ks,0≤k∧k<20)→∀p∈qes t ks,qad p:=fun ks hk p hp=>by
  obtain⟨k,hk1,rfl⟩:=List.mem_map.1 hp
  have:=hk k hk1
  exact⟨this.1,this.2,(xh ht this.1 this.2).2.1⟩
 intro r
 induction r with
 | zero =>
  intro i hi n hn
  obtain⟨n,rfl⟩:=Nat.exists_eq_add_one.2 hn
  rw[qbB,qeY,if_neg (by omega),List.take_of_length_le (by omega)]
 | succ r ih =>
  intro i hi n hn
  obtain⟨n,rfl⟩:=Nat.exists_eq_add_one.2 (show 0<n by omega)
  have h1:i<L.length:=by omega
  have hk:=hL L[i] (List.getElem_mem h1)
  have hpk:=hps [L[i]] (fun k hk2=>by rw[List.mem_singleton.1 hk2];exact hk) (L[i],zj t L[i]) (by simp[qes])
  have hl1:=qgV (hps (L.take i) fun k hk2=>hL k (List.mem_of_mem_take hk2))
  have hl2:=qcs hpk
  have hl3:(qes t (L.take i)).length≤20:=by simp[qes];omega
  rw[qbB,qeY,if_pos (by omega),qp h1,qa,ha,qa,(xh ht hk.1 hk.2).1,qa,(qbe hpk).1,qa,qC (by simp at hl2 ⊢;omega),qa,qD i (by omega),qa]
  have e:(67::prs (qes t (L.take i)):List UInt8)++pr L[i] (zj t L[i])=67::prs (qes t (L.take (i+1))):=by
   have e2:qes t (L.take i++[L[i]])=qes t (L.take i)++[(L[i],zj t L[i])]:=List.map_append
   have e3:prs [(L[i],zj t L[i])]=pr L[i] (zj t L[i]):=by simp[prs]
   rw[xb h1,e2,qkD,e3,List.cons_append]
  rw[e]
  exact ih (i+1) (by omega) n (by omega)
theorem y9(hs:idx T s=some S)(hlg:S.logs_.length=2)(e:Int):M64 s e T=some (T.set s.toNat ⟨S.logs_,S.half_,S.gen_,S.down_||decide (e≠0),S.now_,S.items_,S.active_,S.over_⟩,e):=by
 rw[M64,hs,qa,qh hlg,qa]
 cases h:S.down_ with
 | true=>rw[if_pos rfl,qx hs,qa];rfl
 | false=>rw[if_neg (by simp),qx hs,qa];simp
end
def wr(c:TDeal)(k:Int):Bool:=vp (moL c.texts_) k
def rtx(c:TDeal)(k:Int):List UInt8:=ju (moL c.texts_) k []
def rng(i n:Nat):List Int:=((List.range n).drop i).map fun k:Nat=>(k:Int)
theorem qiE{i n:Nat}(h:i<n):rng i n=(i:Int)::rng (i+1) n:=by
 unfold rng
 rw[List.drop_eq_getElem_cons (by simpa using h)]
 simp
theorem qkx{n:Nat}{x:Int}:x∈rng 0 n↔0≤x∧x<n:=by
 unfold rng
 simp only[List.drop_zero,List.mem_map,List.mem_range]
 constructor
 ·rintro⟨k,hk,rfl⟩;omega
 ·rintro⟨h0,h1⟩;exact⟨x.toNat,by omega,by omega⟩
theorem qlW(n:Nat):(rng 0 n).Pairwise (· < ·):=by
 unfold rng
 rw[List.drop_zero,List.pairwise_map]
 exact(List.pairwise_lt_range (n:=n)).imp fun h=>by omega
def psD(c:TDeal)(ks:List Int):Pairs:=(ks.filter fun k=>wr c k).map fun k=>(k,rtx c k)
section
variable{U:List TStore81}{Y:List TDeal}{u y:Int}{R:TStore81}{D:List TDisk51}{H:List TLog122}{c:TDeal}
theorem qfS(hy:idx Y y=some c)(hc:∀k,0≤k→k<20→wr c k=true→(rtx c k).length≤20):∀(r i:Nat),i+r=20→∀n,r<n→∀z:List UInt8,z.length≤40*i+1 →
  qaf Y y R D H U u n z (i:Int)=qh2 R D H U Y u y (z++prs (psD c (rng i 20))):=by
 intro r
 induction r with
 | zero =>
  intro i hi n hn z hz
  obtain⟨n,rfl⟩:=dec n hn
  obtain rfl:i=20:=by omega
  rw[qaf,qfm,if_neg (by omega)]
  rw[show rng 20 20=[] from rfl,psD,List.filter_nil,List.map_nil,show prs []=[] from rfl,List.append_nil]
 | succ r ih =>
  intro i hi n hn z hz
  obtain⟨n,rfl⟩:=dec n (by omega)
  rw[qaf,qfm,if_pos (by omega),hy,qa,qiE (show i<20 by omega)]
  by_cases h:wr c i=true
  ·have hp:qad ((i:Int),rtx c i):=⟨by omega,by omega,hc i (by omega) (by omega) h⟩
   have hl:=qcs hp
   have e:=(qbe hp).2
   rw[if_pos (show vp (moL c.texts_) (i:Int)=true from h)]
   have e':M70 (i:Int) (ju (moL c.texts_) (i:Int) [])=some (pr i (rtx c i)):=e
   rw[e',qa,qC (by simp at hl ⊢;omega),qa,qD i (by omega),qa,ih (i+1) (by omega) n (by omega) _ (by simp at hl ⊢;omega)]
   have ep:psD c ((i:Int)::rng (i+1) 20)=((i:Int),rtx c i)::psD c (rng (i+1) 20):=by
    unfold psD
    rw[List.filter_cons_of_pos (by exact h),List.map_cons]
   have e2:prs (((i:Int),rtx c i)::psD c (rng (i+1) 20))=pr i (rtx c i)++prs (psD c (rng (i+1) 20)):=rfl
   rw[ep,e2,List.append_assoc]
  ·rw[if_neg (show ¬vp (moL c.texts_) (i:Int)=true from h),qD i (by omega),qa,ih (i+1) (by omega) n (by omega) _ (by omega)]
   have ep:psD c ((i:Int)::rng (i+1) 20)=psD c (rng (i+1) 20):=by
    unfold psD
    rw[List.filter_cons_of_neg (by exact h)]
   rw[ep]
end
end Go.Proofs.YtloiiohoelhldaaGreatDoor
end
section
namespace Go.Proofs.YtloiiohoelhldaaGreatDoor
open Go.S
theorem jx{α:Type}{l:List α}{k:Int}(hl:l.length=20)(h0:0≤k)(h1:k<20):∃x,zd 20 l k=some x∧idx l k=some x:=qhh hl h0 h1
def qS(l:List TVersion):List UInt8:=(l.getLast?.map (·.Text)).getD []
def VOk(S:TStore)(sure:SS):Prop:=sure=S.items_.map qS
def Sm(S:TStore):Prop:=∀l∈S.items_,l.length≤13
theorem qhc{x:List TVersion}{b:List Int}{now:Int}(hv:Vs now x)(hb:b.length≤12)(hn:0≤now):qS (left x b now)=qS x:=by
 unfold qS
 rw[(qdO hv hb hn).2.2]
theorem TxOk.mono{now now':Int}{t:Ttx}(h:TxOk now t)(hn:now≤now'):TxOk now' t:=⟨h.i0,h.i1,h.f0,Int.le_trans h.f1 hn,h.r,h.w,h.t20,h.tl⟩
structure SameT(t u:Ttx):Prop where
 i:u.id_=t.id_
 f:u.from_=t.from_
 r:u.reads_=t.reads_
 w:u.writes_=t.writes_
 x:u.texts_=t.texts_
theorem SameT.refl(t:Ttx):SameT t t:=⟨rfl,rfl,rfl,rfl,rfl⟩
theorem SameT.trans{t u v:Ttx}(h:SameT t u)(h2:SameT u v):SameT t v:=⟨h2.i.trans h.i,h2.f.trans h.f,h2.r.trans h.r,h2.w.trans h.w,h2.x.trans h.x⟩
theorem SameT.ok{t u:Ttx}{now:Int}(h:SameT t u)(ht:TxOk now t):TxOk now u:=⟨by rw[h.i];exact ht.i0,by rw[h.i];exact ht.i1,by rw[h.f];exact ht.f0,by rw[h.f];exact ht.f1,by rw[h.r];exact ht.r,by rw[h.w];exact ht.w,by rw[h.x];exact ht.t20,by rw[h.x];exact ht.tl⟩
structure Like(X X':List Ttx):Prop where
 l:X'.length=X.length
 h:∀x t,idx X x=some t→∃u,idx X' x=some u∧SameT t u
theorem Like.refl(X:List Ttx):Like X X:=⟨rfl,fun x t h=>⟨t,h,.refl t⟩⟩
theorem Like.trans{X Y Z:List Ttx}(h:Like X Y)(h2:Like Y Z):Like X Z:=⟨h2.l.trans h.l,fun x t hx=>by
 obtain⟨u,g1,g2⟩:=h.h x t hx
 obtain⟨v,g3,g4⟩:=h2.h x u g1
 exact⟨v,g3,g2.trans g4⟩⟩
theorem Like.set{X:List Ttx}{a:Int}{t u:Ttx}(h:idx X a=some t)(hs:SameT t u):Like X (X.set a.toNat u):=⟨by simp,fun x v hx=>by
 by_cases c:x=a
 ·subst c
  rw[h,Option.some.injEq]at hx
  exact⟨u,qG h,by rw[←hx];exact hs⟩
 ·exact⟨v,kw hx (qf h).1 fun e=>c e.symm,.refl v⟩⟩
theorem Like.txs{X X':List Ttx}{now now':Int}{l:List Int}(h:Like X X')(hn:now≤now')(hl:Txs X now l):Txs X' now' l:=fun x hx=>by
 obtain⟨t,h1,h2⟩:=hl x hx
 obtain⟨u,h3,h4⟩:=h.h x t h1
 exact⟨u,h3,h4.ok (h2.mono hn)⟩
section
variable{T:List TStore}{X:List Ttx}{s a:Int}{S:TStore}{D:List TDisk}{G:List TLog}{t:Ttx}
def dropped(S:TStore)(a:Int)(b:List Int)(p:Int→Bool):TStore:=⟨S.logs_,S.half_,S.gen_,S.down_,S.now_,S.items_.map (fun x=>left x b S.now_),S.active_.filter (fun x=>!(decide (x=a))),S.over_.filter p⟩
theorem qaJ{b:List Int}{p:Int→Bool}(hb:b.length≤12)(lg:S.logs_.length=2)(it:S.items_.length=20)(vs:∀l∈S.items_,Vs S.now_ l)(n0:0≤S.now_)(n1:S.now_≤2513169434000)(ac:Txs X S.now_ S.active_)(a12:S.active_.length≤12)(an:S.active_.Nodup)
  (ai:∀x∈S.active_,∀y∈S.active_,∀t u,idx X x=some t→idx X y=some u→t.id_=u.id_→x=y) (ov:Txs X S.now_ S.over_) (ol:(S.over_.length:Int)≤S.now_) (ao:∀x∈S.active_,x≠a→x∉S.over_) {sure:SS} (hv:VOk S sure) :
  StOk (dropped S a b p) X∧Sm (dropped S a b p)∧VOk (dropped S a b p) sure:=by
 have hf:=List.length_filter_le (fun x=>!(decide (x=a))) S.active_
 have hf2:=List.length_filter_le p S.over_
 have hm:∀x∈S.active_.filter (fun x=>!(decide (x=a))),x∈S.active_∧x≠a:=fun x hx=>by
  have:=List.mem_filter.1 hx
  simpa using this
 refine⟨⟨lg,by simpa [dropped]using it,fun l hl=>?_,n0,n1,fun x hx=>ac x (hm x hx).1,Nat.le_trans hf a12,an.filter _,fun x hx y hy=>ai x (hm x hx).1 y (hm y hy).1,fun x hx=>ov x (List.mem_filter.1 hx).1,?_,fun x hx h=>ao x (hm x hx).1 (hm x hx).2 (List.mem_filter.1 h).1⟩,fun l hl=>?_,?_⟩
 ·obtain⟨x,hx,rfl⟩:=List.mem_map.1 hl
  exact(qdO (vs x hx) hb n0).1
 ·show((S.over_.filter p).length:Int)≤S.now_
  omega
 ·obtain⟨x,hx,rfl⟩:=List.mem_map.1 hl
  exact(qdO (vs x hx) hb n0).2.1
 ·unfold VOk at hv ⊢
  rw[hv]
  show _=(S.items_.map (fun x=>left x b S.now_)).map qS
  rw[List.map_map]
  apply List.map_congr_left
  intro x hx
  exact(qhc (vs x hx) hb n0).symm
theorem qgC{now nw:Int}(ht:TxOk now t){SI:List (List TVersion)}(K:TStore)(sx:Int)(Z:List Ttx):∀(r i:Nat),i+r=t.writes_.length→∀n,r<n→∀I:List (List TVersion),I.length=20→(∀l∈I,l.length≤1000) →
  (∀k:Nat,k<20→I[k]?=if(k:Int)∈t.writes_.take i then SI[k]?.map (·++[⟨nw,zj t k⟩]) else SI[k]?)→(∀l∈SI,l.length≤100) →
  ∃I':List (List TVersion),I'.length=20∧(∀k:Nat,k<20→I'[k]?=if(k:Int)∈t.writes_ then SI[k]?.map (·++[⟨nw,zj t k⟩]) else SI[k]?) ∧
  qbR t nw K a T sx Z D G n (i:Int) I=qh4 K a T sx nw Z D G I':=by
 have hw:=ht.w
 intro r
 induction r with
 | zero =>
  intro i hi n hn I hI hI2 hI3 hS
  obtain⟨n,rfl⟩:=Nat.exists_eq_add_one.2 hn
  refine⟨I,hI,fun k hk=>?_,by rw[qbR,qfq,if_neg (by omega)]⟩
  rw[hI3 k hk,List.take_of_length_le (by omega)]
 | succ r ih =>
  intro i hi n hn I hI hI2 hI3 hS
  obtain⟨n,rfl⟩:=Nat.exists_eq_add_one.2 (show 0<n by omega)
  have h1:i<t.writes_.length:=by omega
  have hk:=hw.2.2 t.writes_[i] (List.getElem_mem h1)
  obtain⟨x,hx1,hx2⟩:=jx hI hk.1 hk.2
  have hxl:=hI2 x (qbi hx2)
  rw[qbR,qfq,if_pos (by omega),qp h1,qa,hx1,qa,(xh ht hk.1 hk.2).1,qa,qE (by simp;omega),qa,qa,qx hx2,qa,qD i (by omega),qa]
  have hnot:t.writes_[i]∉t.writes_.take i:=by
   intro hm
   obtain⟨q,hq,he⟩:=List.getElem_of_mem hm
   rw[List.length_take]at hq
   rw[List.getElem_take]at he
   exact List.pairwise_iff_getElem.1 hw.2.1 q i (by omega) h1 (by omega) he
  have hIk:I[(t.writes_[i]).toNat]?=some x:=(qf hx2).2.2
  have hSk:SI[(t.writes_[i]).toNat]?=some x:=by
   have:=hI3 (t.writes_[i]).toNat (by omega)
   rw[if_neg (by rw[Int.toNat_of_nonneg hk.1];exact hnot),hIk]at this
   exact this.symm
  have hx100:=hS x (List.mem_of_getElem? hSk)
  refine ih (i+1) (by omega) n (by omega) (I.set (t.writes_[i]).toNat (x++[⟨nw,zj t t.writes_[i]⟩])) (by simpa using hI) (fun l hl=>?_) (fun k hk2=>?_) hS
  ·rcases List.mem_or_eq_of_mem_set hl with h|rfl
   ·exact hI2 l h
   ·simp;omega
  ·rw[List.take_succ_eq_append_getElem h1]
   by_cases c:(k:Int)=t.writes_[i]
   ·have hkn:(t.writes_[i]).toNat=k:=by omega
    rw[hkn]at hSk
    rw[if_pos (List.mem_append_right _ (List.mem_singleton.2 c)),hkn,List.getElem?_set_self (by omega),hSk,Option.map_some,c]
   ·rw[List.getElem?_set_ne (by omega),hI3 k hk2]
    by_cases c2:(k:Int)∈t.writes_.take i
    ·rw[if_pos c2,if_pos (List.mem_append_left _ c2)]
    ·rw[if_neg c2,if_neg fun h=>(List.mem_append.1 h).elim c2 fun h=>c (List.mem_singleton.1 h)]
end
end Go.Proofs.YtloiiohoelhldaaGreatDoor
end
section
namespace Go.Proofs.YtloiiohoelhldaaGreatDoor
open Go.S
theorem Vs.mono{now now':Int}{l:List TVersion}(h:Vs now l)(hn:now≤now'):Vs now' l:=⟨h.ne,h.s,fun v hv=>by have:=h.b v hv;exact⟨this.1,by omega,this.2.2⟩,h.n⟩
theorem Vs.snoc{now:Int}{l:List TVersion}(h:Vs now l)(h0:0≤now)(hl:l.length≤13){x:List UInt8}(hx:x.length≤20):Vs (now+1) (l++[⟨now+1,x⟩]):=by
 refine⟨by simp,?_,fun v hv=>?_,by simp;omega⟩
 ·rw[xc,List.pairwise_append]
  refine⟨xc.1 h.s,by simp,fun a ha b hb=>?_⟩
  have:=h.b a ha
  rw[List.mem_singleton.1 hb]
  show a.At<now+1
  omega
 ·rcases List.mem_append.1 hv with hv|hv
  ·have:=h.b v hv
   exact⟨this.1,by omega,this.2.2⟩
  ·rw[List.mem_singleton.1 hv]
   exact⟨by show 0≤now+1;omega,by show now+1≤now+1;omega,hx⟩
section
variable{T:List TStore}{X:List Ttx}{s:Int}{S:TStore}{D:List TDisk}{G:List TLog}
variable{sure:SS}
theorem StOk.drop(h:StOk S X){a:Int}(ha:a∈S.active_):qkl S X a:=by
 have h1:=h.ol
 have h2:=h.n1
 obtain⟨t,ht,_⟩:=h.ac a ha
 exact⟨h.lg,h.it,h.vs,h.n0,h.n1,h.ac,h.a12,h.ov,by omega,t,ht⟩
theorem StOk.dropped(h:StOk S X){a:Int}{b:List Int}{q:Int→Bool}(hb:b.length≤12)(hv:VOk S sure):StOk (dropped S a b q) X∧Sm (dropped S a b q)∧VOk (dropped S a b q) sure:=
 qaJ hb h.lg h.it h.vs h.n0 h.n1 h.ac h.a12 h.an h.ai h.ov h.ol (fun x hx _=>h.ao x hx) hv
end
end Go.Proofs.YtloiiohoelhldaaGreatDoor
end
section
namespace Go.Proofs.YtloiiohoelhldaaGreatDoor
open Go.S
structure qmG(t u:Ttx)(i o:Prop):Prop where
 s:SameT t u
 a:u.at_=t.at_
 n:u.in_=true↔t.in_=true∨i
 o:u.out_=true↔t.out_=true∨o
structure LikeF(X X':List Ttx)(I O:Int→Prop):Prop where
 l:X'.length=X.length
 h:∀x t,idx X x=some t→∃u,idx X' x=some u∧qmG t u (I x) (O x)
theorem LikeF.refl(X:List Ttx):LikeF X X (fun _=>False) (fun _=>False):=⟨rfl,fun x t h=>⟨t,h,.refl t,rfl,by simp,by simp⟩⟩
theorem LikeF.trans{X Y Z:List Ttx}{I O I' O':Int→Prop}(h:LikeF X Y I O)(h2:LikeF Y Z I' O'):LikeF X Z (fun x=>I x∨I' x) (fun x=>O x∨O' x):=⟨h2.l.trans h.l,fun x t hx=>by
 obtain⟨u,h3,h4⟩:=h.h x t hx
 obtain⟨v,h5,h6⟩:=h2.h x u h3
 exact⟨v,h5,h4.s.trans h6.s,h6.a.trans h4.a,by rw[h6.n,h4.n,or_assoc],by rw[h6.o,h4.o,or_assoc]⟩⟩
theorem LikeF.congr{X Y:List Ttx}{I O I' O':Int→Prop}(h:LikeF X Y I O)(h1:∀x,I x↔I' x)(h2:∀x,O x↔O' x):LikeF X Y I' O':=by
 rw[←funext fun x=>propext (h1 x),←funext fun x=>propext (h2 x)]
 exact h
theorem LikeF.set{X:List Ttx}{a:Int}{t u:Ttx}{i o:Prop}(h:idx X a=some t)(hs:qmG t u i o):LikeF X (X.set a.toNat u) (fun x=>x=a∧i) (fun x=>x=a∧o):=⟨by simp,fun x v hx=>by
 by_cases c:a=x
 ·subst c
  rw[h,Option.some.injEq]at hx
  subst hx
  exact⟨u,qG h,hs.s,hs.a,by simpa using hs.n,by simpa using hs.o⟩
 ·exact⟨v,kw hx (qf h).1 c,.refl v,rfl,by simp[Ne.symm c],by simp[Ne.symm c]⟩⟩
theorem LikeF.like{X X':List Ttx}{I O:Int→Prop}(h:LikeF X X' I O):Like X X':=⟨h.l,fun x t hx=>by
 obtain⟨u,h1,h2⟩:=h.h x t hx
 exact⟨u,h1,h2.s⟩⟩
section
variable{T:List TStore}{X:List Ttx}{s a:Int}{S:TStore}{D:List TDisk}{G:List TLog}{nw:Int}
theorem qkJ{now:Int}{L:List Int}(hL:Txs X now L)(hl:L.length≤4611686018427387904)(ha:∃t,idx X a=some t∧TxOk now t):∀(r i:Nat),i+r=L.length→∀n,r<n→∀Z,(∃I O,LikeF X Z I O) →
  ∃Z',LikeF Z Z' (fun x=>x=a∧L.drop i≠[]) (fun x=>x∈L.drop i)∧qbQ L a nw S T s D G n (i:Int) Z=qh5 a nw S T s D G Z':=by
 intro r
 induction r with
 | zero =>
  intro i hi n hn Z hZ
  obtain⟨n,rfl⟩:=Nat.exists_eq_add_one.2 hn
  rw[List.drop_eq_nil_of_le (by omega)]
  exact⟨Z,(LikeF.refl Z).congr (by simp) (by simp),by rw[qbQ,qfp,if_neg (by omega)]⟩
 | succ r ih =>
  intro i hi n hn Z ⟨I0,O0,hZ⟩
  obtain⟨n,rfl⟩:=Nat.exists_eq_add_one.2 (show 0<n by omega)
  have h1:i<L.length:=by omega
  obtain⟨y,hy1,hy2⟩:=hL L[i] (List.getElem_mem h1)
  obtain⟨y',hy3,hy4⟩:=hZ.h _ _ hy1
  obtain⟨t,ht1,ht2⟩:=ha
  have hZ1:=LikeF.set (i:=False) (o:=True) hy3 (u:=⟨y'.id_,y'.from_,y'.at_,y'.reads_,y'.writes_,y'.texts_,y'.in_,true⟩) ⟨⟨rfl,rfl,rfl,rfl,rfl⟩,rfl,by simp,by simp⟩
  obtain⟨t',ht3,ht4⟩:=(hZ.trans hZ1).h _ _ ht1
  have hZ2:=LikeF.set (i:=True) (o:=False) ht3 (u:=⟨t'.id_,t'.from_,t'.at_,t'.reads_,t'.writes_,t'.texts_,true,t'.out_⟩) ⟨⟨rfl,rfl,rfl,rfl,rfl⟩,rfl,by simp,by simp⟩
  rw[qbQ,qfp,if_pos (by omega),qp h1,qa,hy3,qa,qh (hy4.s.ok hy2).t20,qa,qx hy3,qa,ht3,qa,qh (ht4.s.ok ht2).t20,qa,qD i (by omega),qa,qx ht3,qa]
  obtain⟨Z',g1,g4⟩:=ih (i+1) (by omega) n (by omega) _ ⟨_,_,(hZ.trans hZ1).trans hZ2⟩
  refine⟨Z',((hZ1.trans hZ2).trans g1).congr (fun x=>?_) (fun x=>?_),g4⟩
  ·rw[kh h1];simp only[List.mem_cons,ne_eq,reduceCtorEq,not_false_eq_true,and_true,and_false,false_or]
   exact⟨fun h=>h.elim id (·.1),.inl⟩
  ·rw[kh h1];simp only[List.mem_cons,and_true,and_false,or_false]
theorem ql8{now:Int}{L L2:List Int}(hL:Txs X now L)(hl:L.length≤4611686018427387904)(ha:∃t,idx X a=some t∧TxOk now t):∀(r i:Nat),i+r=L.length→∀n,r<n→∀Z,(∃I O,LikeF X Z I O) →
  ∃Z',LikeF Z Z' (fun x=>x∈L.drop i) (fun x=>x=a∧L.drop i≠[])∧qag L a L2 nw S T s D G n (i:Int) Z=qh6 L2 a nw S T s D G Z':=by
 intro r
 induction r with
 | zero =>
  intro i hi n hn Z hZ
  obtain⟨n,rfl⟩:=Nat.exists_eq_add_one.2 hn
  rw[List.drop_eq_nil_of_le (by omega)]
  exact⟨Z,(LikeF.refl Z).congr (by simp) (by simp),by rw[qag,qfo,if_neg (by omega)]⟩
 | succ r ih =>
  intro i hi n hn Z ⟨I0,O0,hZ⟩
  obtain⟨n,rfl⟩:=Nat.exists_eq_add_one.2 (show 0<n by omega)
  have h1:i<L.length:=by omega
  obtain⟨y,hy1,hy2⟩:=hL L[i] (List.getElem_mem h1)
  obtain⟨y',hy3,hy4⟩:=hZ.h _ _ hy1
  obtain⟨t,ht1,ht2⟩:=ha
  have hZ1:=LikeF.set (i:=True) (o:=False) hy3 (u:=⟨y'.id_,y'.from_,y'.at_,y'.reads_,y'.writes_,y'.texts_,true,y'.out_⟩) ⟨⟨rfl,rfl,rfl,rfl,rfl⟩,rfl,by simp,by simp⟩
  obtain⟨t',ht3,ht4⟩:=(hZ.trans hZ1).h _ _ ht1
  have hZ2:=LikeF.set (i:=False) (o:=True) ht3 (u:=⟨t'.id_,t'.from_,t'.at_,t'.reads_,t'.writes_,t'.texts_,t'.in_,true⟩) ⟨⟨rfl,rfl,rfl,rfl,rfl⟩,rfl,by simp,by simp⟩
  rw[qag,qfo,if_pos (by omega),qp h1,qa,hy3,qa,qh (hy4.s.ok hy2).t20,qa,qx hy3,qa,ht3,qa,qh (ht4.s.ok ht2).t20,qa,qD i (by omega),qa,qx ht3,qa]
  obtain⟨Z',g1,g4⟩:=ih (i+1) (by omega) n (by omega) _ ⟨_,_,(hZ.trans hZ1).trans hZ2⟩
  refine⟨Z',((hZ1.trans hZ2).trans g1).congr (fun x=>?_) (fun x=>?_),g4⟩
  ·rw[kh h1];simp only[List.mem_cons,and_true,and_false,or_false]
  ·rw[kh h1];simp only[List.mem_cons,ne_eq,reduceCtorEq,not_false_eq_true,and_true,and_false,false_or]
   exact⟨fun h=>h.elim id (·.1),.inl⟩
def qbu(t:Ttx)(n:Int):Ttx:=⟨t.id_,t.from_,n,t.reads_,t.writes_,t.texts_,t.in_,t.out_⟩
structure Com(X:List Ttx)(S:TStore)(a:Int)(t:Ttx)(ins outs:List Int)(Z:List Ttx)(S':TStore):Prop where
 lk:LikeF (X.set a.toNat (qbu t (S.now_+1))) Z (fun x=>x∈ins∨(x=a∧outs≠[])) (fun x=>(x=a∧ins≠[])∨x∈outs)
 e:S'=⟨S.logs_,S.half_,S.gen_,S.down_,S.now_+1,S'.items_,S.active_.filter (fun x=>!(decide (x=a))),S'.over_⟩
 rest:∃(b:List Int) (f:Int),f≤S.now_+1∧(∀x∈S.active_,x≠a→∀t,idx X x=some t→t.from_∈b∧f≤t.from_) ∧
  S'.over_=(S.over_++[a]).filter (fun x=>!(decide ((qfL Z x).at_≤f))) ∧
  ∀k:Nat,k<20→∃x y,S.items_[k]?=some x∧S'.items_[k]?=some y∧(∀q,(q=S.now_+1∨q∈b)→rdv y q=rdv (if(k:Int)∈t.writes_ then x++[⟨S.now_+1,zj t k⟩] else x) q)
theorem qov(hs:idx T s=some S)(h:StOk S X)(hsm:Sm S)(hn:S.now_<2513169434000){t:Ttx}(hk:a∈S.active_)(ht:idx X a=some t){ins outs:List Int}(g4:∀x∈ins,x∈S.over_)(g5:∀x∈outs,x∈S.over_)(g6:ins.length≤S.over_.length)(g7:outs.length≤S.over_.length) :
  ∃S' Z,qag ins a outs (S.now_+1) S T s D G big 0 (X.set a.toNat (qbu t (S.now_+1)))=some (D,T.set s.toNat S',G,Z,0)∧Com X S a t ins outs Z S'∧StOk S' Z∧Sm S':=by
 have hol:=h.ol
 have hn0:=h.n0
 obtain⟨t',ht',htk⟩:=h.ac a hk
 rw[ht,Option.some.injEq]at ht'
 subst ht'
 have hl1:Like X (X.set a.toNat (qbu t (S.now_+1))):=.set ht ⟨rfl,rfl,rfl,rfl,rfl⟩
 have hta:idx (X.set a.toNat (qbu t (S.now_+1))) a=some (qbu t (S.now_+1)):=qG ht
 have htka:TxOk S.now_ (qbu t (S.now_+1)):=(show SameT t (qbu t (S.now_+1)) from⟨rfl,rfl,rfl,rfl,rfl⟩).ok htk
 have hti:Txs (X.set a.toNat (qbu t (S.now_+1))) S.now_ ins:=hl1.txs (Int.le_refl _) fun x hx=>h.ov x (g4 x hx)
 have hto:Txs (X.set a.toNat (qbu t (S.now_+1))) S.now_ outs:=hl1.txs (Int.le_refl _) fun x hx=>h.ov x (g5 x hx)
 obtain⟨Z1,hZ1,e1⟩:=ql8 (T:=T) (s:=s) (S:=S) (D:=D) (G:=G) (L2:=outs) (nw:=S.now_+1) hti (by omega) ⟨_,hta,htka⟩ ins.length 0 (by omega) big (by rw[qv];omega) _ ⟨_,_,.refl _⟩
 rw[show((0:Nat):Int)=0 from rfl]at e1
 obtain⟨Z2,hZ2,e2⟩:=qkJ (T:=T) (s:=s) (S:=S) (D:=D) (G:=G) (nw:=S.now_+1) hto (by omega) ⟨_,hta,htka⟩ outs.length 0 (by omega) big (by rw[qv];omega) _ ⟨_,_,hZ1⟩
 rw[show((0:Nat):Int)=0 from rfl]at e2
 rw[List.drop_zero]at hZ1 hZ2
 have hZ:=(hZ1.trans hZ2)
 have hZL:=hl1.trans hZ.like
 obtain⟨u,hu,hup⟩:=hZ.h a _ hta
 have hsame:=hup.s
 have huk:=hsame.ok htka
 obtain⟨I',hI,hI2,e3⟩:=qgC (T:=T) (a:=a) (D:=D) (G:=G) (nw:=S.now_+1) huk (SI:=S.items_) S s Z2 u.writes_.length 0 (by omega) big (by have:=huk.w.1;rw[qv];omega) S.items_ h.it (fun l hl=>by have:=hsm l hl;omega) (fun k _=>by simp) (fun l hl=>by have:=hsm l hl;omega)
 rw[show((0:Nat):Int)=0 from rfl]at e3
 rw[e1,qh6,e2,qh5,hu,qa,e3,qh4]
 obtain⟨S2,hS2⟩:∃S2,S2=(⟨S.logs_,S.half_,S.gen_,S.down_,S.now_+1,I',S.active_,S.over_++[a]⟩:TStore):=⟨_,rfl⟩
 rw[qh hI,qa,qE (by simp;omega),qa,qx hs,qa,←hS2]
 have hs2:idx (T.set s.toNat S2) s=some S2:=qG hs
 have lg2:S2.logs_.length=2:=by rw[hS2];exact h.lg
 have it2:S2.items_.length=20:=by rw[hS2];exact hI
 have nw2:S2.now_=S.now_+1:=by rw[hS2]
 have ac2:S2.active_=S.active_:=by rw[hS2]
 have ov2:S2.over_=S.over_++[a]:=by rw[hS2]
 have i2:S2.items_=I':=by rw[hS2]
 have hIk:∀k:Nat,k<20→I'[k]?=if(k:Int)∈t.writes_ then S.items_[k]?.map (·++[⟨S.now_+1,zj t k⟩]) else S.items_[k]?:=fun k hk=>by
  have e:zj u (k:Int)=zj t k:=by unfold zj;rw[hsame.x];rfl
  have e2:u.writes_=t.writes_:=hsame.w
  rw[hI2 k hk,e2,e]
 have vs2:∀l∈S2.items_,Vs S2.now_ l:=fun l hl=>by
  rw[i2]at hl
  obtain⟨k,hk,rfl⟩:=List.getElem_of_mem hl
  have e:=hIk k (by omega)
  have hki:k<S.items_.length:=by rw[h.it];omega
  have hvk:=h.vs S.items_[k] (List.getElem_mem hki)
  rw[List.getElem?_eq_getElem hk,List.getElem?_eq_getElem hki]at e
  rw[nw2]
  split at e
  ·rw[Option.map_some,Option.some.injEq]at e
   rw[e]
   exact hvk.snoc hn0 (hsm _ (List.getElem_mem hki)) (xh htk (by omega) (by omega)).2.1
  ·rw[Option.some.injEq]at e
   rw[e];exact hvk.mono (by omega)
 have acT:Txs Z2 S2.now_ S2.active_:=by rw[nw2,ac2];exact hZL.txs (by omega) h.ac
 have ovT:Txs Z2 S2.now_ S2.over_:=by
  rw[nw2,ov2]
  intro x hx
  rcases List.mem_append.1 hx with hx|hx
  ·exact hZL.txs (show S.now_≤S.now_+1 by omega) h.ov x hx
  ·rw[List.mem_singleton.1 hx];exact⟨u,hu,huk.mono (by omega)⟩
 have ai2:∀x∈S2.active_,∀y∈S2.active_,∀t u,idx Z2 x=some t→idx Z2 y=some u→t.id_=u.id_→x=y:=by
  rw[ac2]
  intro x hx y hy t1 u1 hx1 hy1 hi
  obtain⟨t0,ht0,_⟩:=h.ac x hx
  obtain⟨u0,hu0,_⟩:=h.ac y hy
  obtain⟨t2,ht2,hts⟩:=hZL.h x t0 ht0
  obtain⟨u2,hu2,hus⟩:=hZL.h y u0 hu0
  rw[hx1,Option.some.injEq]at ht2
  rw[hy1,Option.some.injEq]at hu2
  subst ht2
  subst hu2
  exact h.ai x hx y hy t0 u0 ht0 hu0 (by rw[←hts.i,←hus.i,hi])
 obtain⟨b,f,hb,hf,hbf,g9⟩:=qhz hs2 (a:=a) (X:=Z2) ⟨lg2,it2,vs2,by omega,by omega,acT,by rw[ac2];exact h.a12,ovT,by rw[ov2];simp;omega,u,hu⟩
 obtain⟨f1,f2,f3⟩:=qaJ (X:=Z2) (a:=a) (p:=fun x=>!(decide ((qfL Z2 x).at_≤f))) (sure:=S2.items_.map qS) hb lg2 it2 vs2 (by omega) (by omega) acT (by rw[ac2];exact h.a12) (by rw[ac2];exact h.an) ai2 ovT (by rw[ov2];simp;omega) (fun x hx hxa=>by
  rw[ac2]at hx
  rw[ov2]
  intro hm
  rcases List.mem_append.1 hm with hm|hm
  ·exact h.ao x hx hm
  ·exact hxa (List.mem_singleton.1 hm)) rfl
 rw[g9,qa,vu,qG hs,qa]
 refine⟨_,Z2,rfl,⟨?_,?_,b,f,by rw[←nw2];exact hf,fun x hx hxa v hv=>?_,?_,fun k hk2=>?_⟩,f1,f2⟩
 ·exact hZ.congr (fun x=>Iff.rfl) (fun x=>Iff.rfl)
 ·simp only[dropped,hS2]
 ·obtain⟨v',h1,h2⟩:=hZL.h x v hv
  have:=hbf x (by rw[ac2];exact hx) hxa v' h1
  rw[h2.f]at this
  exact this
 ·show S2.over_.filter _=_;rw[ov2]
 ·have hki:k<S.items_.length:=by rw[h.it];omega
  have hkI:k<I'.length:=by omega
  have e:=hIk k hk2
  have hv2:=vs2 I'[k] (by rw[i2];exact List.getElem_mem hkI)
  have hy:(dropped S2 a b fun x=>!(decide ((qfL Z2 x).at_≤f))).items_[k]?=some (left I'[k] b S2.now_):=by
   show(S2.items_.map _)[k]?=_
   rw[i2,List.getElem?_map,List.getElem?_eq_getElem hkI];rfl
  refine⟨S.items_[k],_,List.getElem?_eq_getElem hki,hy,fun q hq=>?_⟩
  rw[qdN hv2 (s:=q) (by rw[nw2];exact hq.symm)]
  rw[List.getElem?_eq_getElem hkI,List.getElem?_eq_getElem hki]at e
  split at e
  ·rename_i c
   rw[Option.map_some,Option.some.injEq]at e
   rw[e,if_pos c]
  ·rename_i c
   rw[Option.some.injEq]at e
   rw[e,if_neg c]
end
end Go.Proofs.YtloiiohoelhldaaGreatDoor
end
section
namespace Go.Proofs.YtloiiohoelhldaaGreatDoor
open Go.S
theorem wW:∀(n:Nat) (l:List Int),l.Nodup→(∀x∈l,0≤x∧x<n)→l.length≤n
 | 0,[],_,_=>Nat.le_refl _
 | 0,x::l,_,h=>by have:=h x List.mem_cons_self;omega
 | n+1,l,hn,h=>by
  have ih:=wW n (l.filter fun x=>decide (x≠(n:Int))) (hn.filter _) fun x hx=>by
   obtain⟨h1,h2⟩:=List.mem_filter.1 hx
   have:=h x h1
   simp at h2
   omega
  by_cases c:(n:Int)∈l
  ·have h1:=List.length_erase_of_mem c
   have h2:=hn.erase_eq_filter (n:Int)
   have h3:(l.filter fun x=>decide (x≠(n:Int)))=l.filter fun x=>x != (n:Int):=by
    apply List.filter_congr
    intro x _
    by_cases e:x=(n:Int)<;>simp[e]
   rw[h3,←h2,h1]at ih
   omega
  ·have h1:(l.filter fun x=>decide (x≠(n:Int)))=l:=by
    rw[List.filter_eq_self]
    intro x hx
    simp only[decide_eq_true_eq]
    rintro rfl
    exact c hx
   rw[h1]at ih
   omega
structure Stay(X X':List Ttx):Prop where
 l:X.length≤X'.length
 h:∀x t,idx X x=some t→∃u,idx X' x=some u∧u.id_=t.id_∧∀now,TxOk now t→TxOk now u
theorem Stay.set{X:List Ttx}{a:Int}{t u:Ttx}(h:idx X a=some t)(hi:u.id_=t.id_)(ho:∀now,TxOk now t→TxOk now u):Stay X (X.set a.toNat u):=⟨by simp,fun x v hx=>by
 by_cases c:x=a
 ·subst c
  rw[h,Option.some.injEq]at hx
  subst hx
  exact⟨u,qG h,hi,ho⟩
 ·exact⟨v,kw hx (qf h).1 fun e=>c e.symm,rfl,fun _ h=>h⟩⟩
theorem xn{α:Type}{l:List α}{x:Int}{t u:α}(h:idx l x=some t):idx (l++[u]) x=some t:=by
 obtain⟨h0,h1,h2⟩:=qf h
 unfold idx
 rw[if_pos h0,List.getElem?_append_left (by omega),h2]
theorem Stay.snoc(X:List Ttx)(u:Ttx):Stay X (X++[u]):=⟨by simp,fun x t h=>⟨t,xn h,rfl,fun _ h=>h⟩⟩
theorem StOk.stay{S:TStore}{X X':List Ttx}(h:StOk S X)(hs:Stay X X'):StOk S X':=by
 refine⟨h.lg,h.it,h.vs,h.n0,h.n1,fun x hx=>?_,h.a12,h.an,fun x hx y hy t u ht hu hi=>?_,fun x hx=>?_,h.ol,h.ao⟩
 ·obtain⟨t,h1,h2⟩:=h.ac x hx
  obtain⟨u,h3,h4,h5⟩:=hs.h x t h1
  exact⟨u,h3,h5 _ h2⟩
 ·obtain⟨t0,h1,_⟩:=h.ac x hx
  obtain⟨u0,h2,_⟩:=h.ac y hy
  obtain⟨t1,h3,h4,_⟩:=hs.h x t0 h1
  obtain⟨u1,h5,h6,_⟩:=hs.h y u0 h2
  rw[ht,Option.some.injEq]at h3
  rw[hu,Option.some.injEq]at h5
  subst h3
  subst h5
  exact h.ai x hx y hy t0 u0 h1 h2 (by omega)
 ·obtain⟨t,h1,h2⟩:=h.ov x hx
  obtain⟨u,h3,h4,h5⟩:=hs.h x t h1
  exact⟨u,h3,h5 _ h2⟩
theorem Txs.lt{X:List Ttx}{now:Int}{l:List Int}(h:Txs X now l):∀k∈l,k<X.length:=fun k hk=>by
 obtain⟨t,h1,_⟩:=h k hk
 exact(qf h1).2.1
section
variable{T:List TStore}{X:List Ttx}{s:Int}{S:TStore}
def xv(id now:Int):Ttx:=⟨id,now,0,[],[],List.replicate 20 [],false,false⟩
def begun(S:TStore)(x:Int):TStore:=⟨S.logs_,S.half_,S.gen_,S.down_,S.now_,S.items_,S.active_++[x],S.over_⟩
theorem qiO{id now:Int}(h0:0≤id)(h1:id<12)(hn:0≤now):TxOk now (xv id now):=by
 refine⟨h0,h1,hn,Int.le_refl _,by simp[xv],by simp[xv],by simp[xv],fun x hx=>?_⟩
 rw[(List.mem_replicate.1 hx).2];simp
theorem qi8(hs:idx T s=some S)(h:StOk S X)(hT:∀x∈T,TStore.ok130 X.length x)(id:Int)(hd:S.down_=false)(h0:0≤id)(h1:id<12)(g1:M55 s id T X=some (-1))(g3:∀x∈S.active_,∀t,idx X x=some t→t.id_≠id) :
  M24 s id T X=some (T.set s.toNat (begun S X.length),X++[xv id S.now_],0)∧StOk (begun S X.length) (X++[xv id S.now_]):=by
 rw[M24,hs,qa,qh h.lg,qa,hd,if_neg ff,if_neg (by omega),if_neg (by omega),qbS,if_neg ff,g1,qa,hs,qa]
 have hn0:=h.n0
 have ha12:=h.a12
 rw[if_neg (by omega),qh h.lg,qa,qh h.it,qa,zf ⟨hT,h.ac.lt,h.ov.lt⟩,qa,qal,qe,qE (by simp;omega),qa,qx hs,qa]
 have hst:=h.stay (Stay.snoc X (xv id S.now_))
 have hX:idx (X++[xv id S.now_]) (X.length:Int)=some (xv id S.now_):=qZ _ _
 have hnx:∀x∈S.active_,x≠(X.length:Int):=fun x hx e=>by have:=h.ac.lt x hx;omega
 have hok:=qiO (id:=id) (now:=S.now_) (by omega) (by omega) hn0
 refine⟨rfl,⟨h.lg,h.it,h.vs,hn0,h.n1,fun x hx=>?_,?_,?_,?_,hst.ov,h.ol,?_⟩⟩
 ·rcases List.mem_append.1 hx with hx|hx
  ·exact hst.ac x hx
  ·rw[List.mem_singleton.1 hx];exact⟨_,hX,hok⟩
 ·
  have hids:(S.active_.map fun x=>(qfL X x).id_).Nodup:=by
   rw[List.Nodup,List.pairwise_map]
   refine List.pairwise_iff_forall_sublist.2 fun {x y} hsub e=>?_
   have hx:=hsub.subset (show x∈[x,y] by simp)
   have hy:=hsub.subset (show y∈[x,y] by simp)
   obtain⟨t,ht,_⟩:=h.ac x hx
   obtain⟨u,hu,_⟩:=h.ac y hy
   rw[xy ht,xy hu]at e
   exact List.pairwise_iff_forall_sublist.1 h.an hsub (h.ai x hx y hy t u ht hu e)
  have hall:((S.active_.map fun x=>(qfL X x).id_)++[id]).Nodup:=by
   rw[List.nodup_append]
   refine⟨hids,by simp,fun a ha b hb e=>?_⟩
   rw[List.mem_singleton.1 hb]at e
   obtain⟨x,hx,rfl⟩:=List.mem_map.1 ha
   obtain⟨t,ht,_⟩:=h.ac x hx
   rw[xy ht]at e
   exact g3 x hx t ht e
  have:=wW 12 _ hall fun x hx=>by
   rcases List.mem_append.1 hx with hx|hx
   ·obtain⟨y,hy,rfl⟩:=List.mem_map.1 hx
    obtain⟨t,ht,hk⟩:=h.ac y hy
    rw[xy ht]
    exact⟨hk.i0,hk.i1⟩
   ·rw[List.mem_singleton.1 hx];omega
  simpa [begun]using this
 ·show(S.active_++[(X.length:Int)]).Nodup
  rw[List.nodup_append]
  exact⟨h.an,by simp,fun a ha b hb e=>hnx a ha (by rw[e,List.mem_singleton.1 hb])⟩
 ·intro x hx y hy t u ht hu hi
  rcases List.mem_append.1 hx with hx|hx<;>rcases List.mem_append.1 hy with hy|hy
  ·exact hst.ai x hx y hy t u ht hu hi
  ·rw[List.mem_singleton.1 hy,hX,Option.some.injEq]at hu
   obtain⟨t0,ht0,_⟩:=h.ac x hx
   rw[xn ht0,Option.some.injEq]at ht
   subst ht
   subst hu
   exact absurd hi (g3 x hx t0 ht0)
  ·rw[List.mem_singleton.1 hx,hX,Option.some.injEq]at ht
   obtain⟨u0,hu0,_⟩:=h.ac y hy
   rw[xn hu0,Option.some.injEq]at hu
   subst ht
   subst hu
   exact absurd hi.symm (g3 y hy u0 hu0)
  ·rw[List.mem_singleton.1 hx,List.mem_singleton.1 hy]
 ·intro x hx hm
  rcases List.mem_append.1 hx with hx|hx
  ·exact h.ao x hx hm
  ·have:=h.ov.lt x hm
   rw[List.mem_singleton.1 hx]at this
   omega
structure Kin(t u:Ttx):Prop where
 i:u.id_=t.id_
 f:u.from_=t.from_
 a:u.at_=t.at_
 n:u.in_=t.in_
 o:u.out_=t.out_
 ok:∀now,TxOk now t→TxOk now u
theorem qkz(hs:idx T s=some S)(h:StOk S X){id item k:Int}{t:Ttx}(g1:M56 s id item T X=some (k,0))(hk:k∈S.active_)(ht:idx X k=some t)(hi0:0≤item)(hi1:item<20) :
  ∃u x l,M25 s id item T X=some (X.set k.toNat u,x,0)∧Kin t u∧u.writes_=t.writes_∧u.texts_=t.texts_∧idx S.items_ item=some l ∧
   ((item∈t.writes_∧x=zj t item∧∀q,q∈u.reads_↔q∈t.reads_)∨(item∉t.writes_∧(∀q,q∈u.reads_↔q∈t.reads_∨q=item)∧x=rdv l t.from_)):=by
 rw[M25,hs,qa,g1,qe,qa]
 obtain⟨t',ht',htk⟩:=h.ac k hk
 rw[ht,Option.some.injEq]at ht'
 subst ht'
 have hr:=htk.r
 obtain⟨l,hl1,hl2⟩:=jx h.it hi0 hi1
 have hv:=h.vs l (qbi hl2)
 have k1:∀X' u,idx X' k=some u→u.from_=t.from_→qgk k S item X'=some (X',rdv l t.from_,0):=by
  intro X' u hu hf
  obtain⟨b,hx⟩:=qky l u.from_ (by have:=hv.n;omega)
  rw[qgk,hu,qa,hl1,qa,qh h.lg,qa,hx,qe,hf]
 have hself:Kin t t:=⟨rfl,rfl,rfl,rfl,rfl,fun _ h=>h⟩
 rw[if_neg (by simp),ht,qa,qez _ (by have:=htk.w.1;omega),qa]
 by_cases cw:item∈t.writes_
 ·rw[if_pos (by simpa using cw),(xh htk hi0 hi1).1,qa]
  exact⟨t,_,l,by rw[vg ht],hself,rfl,rfl,hl2,.inl ⟨cw,rfl,fun _=>Iff.rfl⟩⟩
 ·rw[if_neg (by simpa using cw),qez _ (by omega),qa]
  by_cases c:item∈t.reads_
  ·rw[if_pos (by simpa using c)]
   exact⟨t,_,l,by rw[vg ht,k1 X t ht rfl],hself,rfl,rfl,hl2,.inr ⟨cw,fun q=>⟨.inl,fun hq=>hq.elim (fun h=>h) fun e=>by rw[e];exact c⟩,rfl⟩⟩
  ·rw[if_neg (by simpa using c),qE (by simp;omega),qa,qx ht,qa]
   refine⟨⟨t.id_,t.from_,t.at_,t.reads_++[item],t.writes_,t.texts_,t.in_,t.out_⟩,_,l,k1 _ _ (qG ht) rfl,⟨rfl,rfl,rfl,rfl,rfl,fun now hh=>?_⟩,rfl,rfl,hl2,.inr ⟨cw,fun q=>by simp,rfl⟩⟩
   have hnd:(t.reads_++[item]).Nodup:=by
    rw[List.nodup_append]
    exact⟨hh.r.2.1,by simp,fun a ha b hb e=>c (by rw[←List.mem_singleton.1 hb,←e];exact ha)⟩
   have hin:∀k∈t.reads_++[item],0≤k∧k<20:=fun k hk=>by
    rcases List.mem_append.1 hk with hk|hk
    ·exact hh.r.2.2 k hk
    ·rw[List.mem_singleton.1 hk];exact⟨hi0,hi1⟩
   exact⟨hh.i0,hh.i1,hh.f0,hh.f1,⟨wW 20 _ hnd hin,hnd,hin⟩,hh.w,hh.t20,hh.tl⟩
theorem qiv(hs:idx T s=some S)(h:StOk S X){id item k:Int}{t:Ttx}(g1:M56 s id item T X=some (k,0))(hk:k∈S.active_)(ht:idx X k=some t)(hi0:0≤item)(hi1:item<20)(x:List UInt8)(cl : ¬20<(x.length:Int)) :
  ∃u,M26 s id item x T X=some (X.set k.toNat u,0)∧Kin t u∧u.reads_=t.reads_∧(∀q,q∈u.writes_↔q∈t.writes_∨q=item)∧u.texts_=t.texts_.set item.toNat x:=by
 rw[M26,hs,qa,g1,qe,qa]
 obtain⟨t',ht',htk⟩:=h.ac k hk
 rw[ht,Option.some.injEq]at ht'
 subst ht'
 rw[if_neg (by simp)]
 have hx20:=htk.t20
 have hup:upd t.texts_ item x=some (t.texts_.set item.toNat x):=by
  obtain⟨y,hy1,hy2⟩:=jx hx20 hi0 hi1
  exact qx hy2
 have htl:∀now,TxOk now t→(t.texts_.set item.toNat x).length=20∧∀y∈t.texts_.set item.toNat x,y.length≤20:=fun now hh=>⟨by simpa using hh.t20,qbh (P:=fun y=>y.length≤20) hh.tl (by omega)⟩
 have hw:=htk.w
 rw[if_neg cl,ht,qa,qez _ (by omega),qa]
 by_cases c:item∈t.writes_
 ·rw[if_pos (by simpa using c),(xh htk hi0 hi1).1,qa,hup,qa,qx ht,qa]
  refine⟨_,rfl,⟨rfl,rfl,rfl,rfl,rfl,fun now hh=>⟨hh.i0,hh.i1,hh.f0,hh.f1,hh.r,hh.w,(htl now hh).1,(htl now hh).2⟩⟩,rfl,fun q=>⟨.inl,fun hq=>hq.elim (fun h=>h) fun e=>by rw[e];exact c⟩,rfl⟩
 ·rw[if_neg (by simpa using c),qE (by simp;omega),qa,(xh htk hi0 hi1).1,qa,hup,qa,qx ht,qa]
  refine⟨_,rfl,⟨rfl,rfl,rfl,rfl,rfl,fun now hh=>?_⟩,rfl,fun q=>by simp,rfl⟩
  have hnd:(t.writes_++[item]).Nodup:=by
   rw[List.nodup_append]
   exact⟨hh.w.2.1,by simp,fun a ha b hb e=>c (by rw[←List.mem_singleton.1 hb,←e];exact ha)⟩
  have hin:∀k∈t.writes_++[item],0≤k∧k<20:=fun k hk=>by
   rcases List.mem_append.1 hk with hk|hk
   ·exact hh.w.2.2 k hk
   ·rw[List.mem_singleton.1 hk];exact⟨hi0,hi1⟩
  exact⟨hh.i0,hh.i1,hh.f0,hh.f1,hh.r,⟨wW 20 _ hnd hin,hnd,hin⟩,(htl now hh).1,(htl now hh).2⟩
end
end Go.Proofs.YtloiiohoelhldaaGreatDoor
end
section
namespace Go.Proofs.YtloiiohoelhldaaGreatDoor
open Go.S
abbrev Rl:=Int→TDeal→Prop
structure TD(t:Ttx)(c:TDeal):Prop where
 i:t.id_=c.id_
 f:t.from_=c.from_
 a:t.at_=c.at_
 r:∀k,k∈t.reads_↔∃o∈c.Ops,o.Item=k
 w:∀k,k∈t.writes_↔wr c k=true
 x:∀k∈t.writes_,zj t k=rtx c k
 n:∃m,c.texts_=some m
def skp(a b:TDeal):Prop:=b.from_<a.at_∧a.from_<b.at_∧∃o∈a.Ops,wr b o.Item=true
def SIn(C:Rl)(y:Int)(c:TDeal):Prop:=∃z d,C z d∧z≠y∧skp d c
def qka(C:Rl)(y:Int)(c:TDeal):Prop:=∃z d,C z d∧z≠y∧skp c d
def IsV(C:Rl)(v:SS)(k:Nat)(q:Int)(x:List UInt8):Prop:=
 (∃y c,C y c∧c.at_≤q∧wr c k=true∧x=rtx c k∧∀z d,C z d→d.at_≤q→wr d k=true→d.at_≤c.at_)∨((∀z d,C z d→d.at_≤q→wr d k=false)∧x=v.getD k [])
structure Sim(S:TStore)(X:List Ttx)(v:SS)(C L:Rl):Prop where
 a1:∀x∈S.active_,∃t y c,idx X x=some t∧t.in_=false∧t.out_=false∧L y c∧TD t c
 a2:∀y c,L y c→∃x∈S.active_,∃t,idx X x=some t∧TD t c
 a3:∀y c z d,L y c→L z d→c.id_=d.id_→y=z∧c=d
 a4:∀y c,L y c→c.at_=0∧c.over_=false
 a5:∀y c d,L y c→L y d→c=d
 c1:∀y c,C y c→0≤c.from_∧c.from_<c.at_∧c.at_≤S.now_
 c2:∀y c z d,C y c→C z d→c.at_=d.at_→y=z∧c=d
 c3:∀y c d,C y c→C y d→c=d
 cl:∀y c d,C y c→L y d→False
 o1:∀x∈S.over_,∃t y c,idx X x=some t∧C y c∧TD t c∧(t.in_=true↔SIn C y c)∧(t.out_=true↔qka C y c)
 o2:∀y c,C y c→∀x∈S.active_,∀t,idx X x=some t→t.from_<c.at_→∃z∈S.over_,∃u,idx X z=some u∧u.at_=c.at_
 nb:∀y c,C y c→¬(SIn C y c∧qka C y c)
 vl:∀k:Nat,k<20→∀l,S.items_[k]?=some l→∀q,(q=S.now_∨∃x∈S.active_,∃t,idx X x=some t∧t.from_=q)→IsV C v k q (rdv l q)
theorem qB{α:Type}{l:List α}{a:Int}{x y:α}(h:idx l a=some x)(h2:idx l a=some y):x=y:=Option.some.inj (h.symm.trans h2)
def cAt(c:TDeal)(n:Int):TDeal:=⟨c.id_,c.from_,n,true,c.Ops,c.texts_⟩
def Cp(C:Rl)(y:Int)(c:TDeal)(n:Int):Rl:=fun z d=>C z d∨(z=y∧d=cAt c n)
def qeP(C:Rl)(y:Int)(c:TDeal)(n:Int):Prop:=(∃z d,C z d∧c.from_<d.at_∧∃k,wr c k=true∧wr d k=true)∨∃z d,Cp C y c n z d∧SIn (Cp C y c n) z d∧qka (Cp C y c n) z d
section
variable{S:TStore}{X:List Ttx}{v:SS}{C L:Rl}{a y:Int}{t:Ttx}{c:TDeal}
theorem TD.meet{u:Ttx}{d:TDeal}(h:TD t c)(h2:TD u d):Mt t.reads_ u.writes_↔∃o∈c.Ops,wr d o.Item=true:=by
 constructor
 ·rintro⟨k,h3,h4⟩
  obtain⟨o,ho,rfl⟩:=(h.r k).1 h3
  exact⟨o,ho,(h2.w _).1 h4⟩
 ·rintro⟨o,ho,h3⟩
  exact⟨_,(h.r _).2 ⟨o,ho,rfl⟩,(h2.w _).2 h3⟩
theorem yd{n:Int}(ht:TD t c)(hn:∀y c,C y c→c.from_<n){z:Int}{d:TDeal}(hz:C z d){u:Ttx}(hu:TD u d):skp (cAt c n) d↔t.from_<u.at_∧Mt t.reads_ u.writes_:=by
 rw[ht.meet hu,ht.f,hu.a]
 exact⟨fun h=>h.2,fun h=>⟨hn z d hz,h⟩⟩
theorem yg{n:Int}(ht:TD t c)(hn:∀y c,C y c→c.from_<n){z:Int}{d:TDeal}(hz:C z d){u:Ttx}(hu:TD u d):skp d (cAt c n)↔t.from_<u.at_∧Mt u.reads_ t.writes_:=by
 rw[hu.meet ht,ht.f,hu.a]
 exact⟨fun h=>⟨h.1,h.2.2⟩,fun h=>⟨h.1,hn z d hz,h.2⟩⟩
theorem Sim.at(h:Sim S X v C L)(ha:a∈S.active_)(ht:idx X a=some t){z:Int}{d:TDeal}(hz:C z d)(hf:t.from_<d.at_):∃x∈S.over_,∃u,idx X x=some u∧TD u d∧(u.in_=true↔SIn C z d)∧(u.out_=true↔qka C z d):=by
 obtain⟨x,hx,u,hu,e⟩:=h.o2 z d hz a ha t ht hf
 obtain⟨u',z',d',hu',hz',g1,g2⟩:=h.o1 x hx
 cases qB hu hu'
 obtain⟨rfl,rfl⟩:=h.c2 z' d' z d hz' hz (by rw[←g1.a,e])
 exact⟨x,hx,u,hu,g1,g2⟩
theorem Sim.nf(h:Sim S X v C L):∀y c,C y c→c.from_<S.now_+1:=fun y c hc=>by have:=h.c1 y c hc;omega
theorem Sim.may(h:Sim S X v C L)(ha:a∈S.active_)(ht:idx X a=some t)(hL:L y c)(hd:TD t c):Cnd X t S.over_ false false↔¬qeP C y c (S.now_+1):=by
 have hn:=h.nf
 have hf:(false=true)↔False:=by simp
 constructor
 ·rintro⟨h1,h2⟩ hm
  have key:∀z d,C z d→c.from_<d.at_→∃x∈S.over_,∃u,idx X x=some u∧TD u d∧(u.in_=true↔SIn C z d)∧(u.out_=true↔qka C z d)∧t.from_<u.at_∧qkk t u:=fun z d hz hc=>by
   obtain⟨x,hx,u,hu,g1,g2,g3⟩:=h.at ha ht hz (by rw[hd.f];exact hc)
   have e:t.from_<u.at_:=by rw[hd.f,g1.a];exact hc
   exact⟨x,hx,u,hu,g1,g2,g3,e,h1 x hx u hu e⟩
  rcases hm with⟨z,d,hz,hc,k,k1,k2⟩|⟨z,d,hz,hi,ho⟩
  ·obtain⟨x,hx,u,hu,g1,g2,g3,e,fi⟩:=key z d hz hc
   exact fi.w ⟨k,(hd.w k).2 k1,(g1.w k).2 k2⟩
  ·rcases hz with hz|⟨rfl,rfl⟩
   ·have hnb:=h.nb z d hz
    by_cases c1:skp (cAt c (S.now_+1)) d
    ·obtain⟨x,hx,u,hu,g1,g2,g3,e,fi⟩:=key z d hz c1.2.1
     obtain⟨f1,f2⟩:=fi.a ((yd hd hn hz g1).1 c1).2
     obtain⟨z',d',hz' | ⟨rfl,rfl⟩,hne,hs⟩:=ho
     ·rw[g3.2 ⟨z',d',hz',hne,hs⟩]at f1;cases f1
     ·exact f2 ((yg hd hn hz g1).1 hs).2
    ·have hi':SIn C z d:=by
      obtain⟨z',d',hz' | ⟨rfl,rfl⟩,hne,hs⟩:=hi
      ·exact⟨z',d',hz',hne,hs⟩
      ·exact absurd hs c1
     obtain⟨z',d',hz' | ⟨rfl,rfl⟩,hne,hs⟩:=ho
     ·exact hnb ⟨hi',z',d',hz',hne,hs⟩
     ·obtain⟨x,hx,u,hu,g1,g2,g3,e,fi⟩:=key z d hz hs.1
      have:=fi.b ((yg hd hn hz g1).1 hs).2
      rw[g2.2 hi']at this;cases this
   ·obtain⟨z',d',hz' | ⟨rfl,rfl⟩,hne,hs⟩:=hi
    ·obtain⟨z'',d'',hz'' | ⟨rfl,rfl⟩,hne',hs'⟩:=ho
     ·obtain⟨x,hx,u,hu,g1,g2,g3,e,fi⟩:=key z' d' hz' hs.1
      obtain⟨x',hx',u',hu',g1',g2',g3',e',fi'⟩:=key z'' d'' hz'' hs'.2.1
      exact h2 (.inr ⟨x,hx,u,hu,(yg hd hn hz' g1).1 hs⟩) (.inr ⟨x',hx',u',hu',(yd hd hn hz'' g1').1 hs'⟩)
     ·exact hne' rfl
    ·exact hne rfl
 ·intro hm
  have hne:∀z d,C z d→z≠y:=fun z d hz e=>h.cl z d c hz (by rw[e];exact hL)
  have key:∀x∈S.over_,∀u,idx X x=some u→∃z d,C z d∧TD u d∧(u.in_=true↔SIn C z d)∧(u.out_=true↔qka C z d):=fun x hx u hu=>by
   obtain⟨u',z,d,hu',hz,g⟩:=h.o1 x hx
   cases qB hu hu'
   exact⟨z,d,hz,g⟩
  have up:∀{z d},SIn C z d→SIn (Cp C y c (S.now_+1)) z d:=fun⟨z',d',h1,h2⟩=>⟨z',d',.inl h1,h2⟩
  have up':∀{z d},qka C z d→qka (Cp C y c (S.now_+1)) z d:=fun⟨z',d',h1,h2⟩=>⟨z',d',.inl h1,h2⟩
  refine⟨fun x hx u hu hlt=>?_,fun p q=>?_⟩
  ·obtain⟨z,d,hz,g1,g2,g3⟩:=key x hx u hu
   have hc:c.from_<d.at_:=by rw[←hd.f,←g1.a];exact hlt
   have hb:=fun p=>hm (.inr ⟨z,d,.inl hz,p⟩)
   refine⟨fun⟨k,k1,k2⟩=>hm (.inl ⟨z,d,hz,hc,k,(hd.w k).1 k1,(g1.w k).1 k2⟩),fun hmt=>?_,fun hmt=>?_⟩
   ·have hi:SIn (Cp C y c (S.now_+1)) z d:=⟨y,_,.inr ⟨rfl,rfl⟩,(hne z d hz).symm,(yd hd hn hz g1).2 ⟨hlt,hmt⟩⟩
    refine⟨?_,fun h2=>hb ⟨hi,y,_,.inr ⟨rfl,rfl⟩,(hne z d hz).symm,(yg hd hn hz g1).2 ⟨hlt,h2⟩⟩⟩
    rw[Bool.eq_false_iff]
    exact fun h2=>hb ⟨hi,up' (g3.1 h2)⟩
   ·rw[Bool.eq_false_iff]
    exact fun h2=>hb ⟨up (g2.1 h2),y,_,.inr ⟨rfl,rfl⟩,(hne z d hz).symm,(yg hd hn hz g1).2 ⟨hlt,hmt⟩⟩
  ·rcases p with p|⟨x,hx,u,hu,p⟩
   ·cases p
   rcases q with q|⟨x',hx',u',hu',q⟩
   ·cases q
   obtain⟨z,d,hz,g1,g2,g3⟩:=key x hx u hu
   obtain⟨z',d',hz',g1',g2',g3'⟩:=key x' hx' u' hu'
   exact hm (.inr ⟨y,_,.inr ⟨rfl,rfl⟩,⟨z,d,.inl hz,hne z d hz,(yg hd hn hz g1).2 p⟩,⟨z',d',.inl hz',hne z' d' hz',(yd hd hn hz' g1').2 q⟩⟩)
end
end Go.Proofs.YtloiiohoelhldaaGreatDoor
end
section
namespace Go.Proofs.YtloiiohoelhldaaGreatDoor
open Go.S
def Wo(L:Rl)(y:Int):Rl:=fun z d=>z≠y∧L z d
def Wi(L:Rl)(y:Int)(c:TDeal):Rl:=fun z d=>(z≠y∧L z d)∨(z=y∧d=c)
section
variable{S S':TStore}{X Z:List Ttx}{v:SS}{C L:Rl}{a y:Int}{t u:Ttx}{c d:TDeal}
theorem Sim.same(h:Sim S X v C L)(h1:S'.now_=S.now_)(h2:S'.items_=S.items_)(h3:S'.active_=S.active_)(h4:S'.over_=S.over_):Sim S' X v C L:=by
 obtain⟨a1,a2,a3,a4,a5,b1,b2,b3,b4,o1,o2,nb,vl⟩:=h
 exact⟨by rw[h3];exact a1,by rw[h3];exact a2,a3,a4,a5,by rw[h1];exact b1,b2,b3,b4,by rw[h4];exact o1,by rw[h3,h4];exact o2,nb,by rw[h1,h2,h3];exact vl⟩
theorem Sim.new(logs:List Int)(hf gen:Int)(v:SS)(X:List Ttx):Sim (wL logs hf gen (qM v)) X v (fun _ _=>False) (fun _ _=>False):=by
 have no:∀{p:Prop} (y:Int) (c:TDeal),(fun(_:Int) (_:TDeal)=>False) y c→p:=fun _ _ h=>False.elim h
 refine⟨fun x hx=>(by cases hx),fun y c=>no y c,fun y c z d h=>no y c h,fun y c=>no y c,fun y c d h=>no y c h,fun y c=>no y c,fun y c z d h=>no y c h,fun y c d h=>no y c h,fun y c d h=>no y c h,fun x hx=>(by cases hx),fun y c=>no y c,fun y c=>no y c,fun k hk l hl q hq=>?_⟩
 rcases hq with rfl|⟨x,hx,_⟩
 ·refine .inr ⟨fun z d=>no z d,?_⟩
  simp only[wL,qM,List.getElem?_map,Option.map_eq_some_iff]at hl ⊢
  obtain⟨x,hx,rfl⟩:=hl
  simp[rdv,vis,List.getD_eq_getElem?_getD,hx]
 ·cases hx
theorem TD.like(h:TD t c)(hs:SameT t u)(ha:u.at_=t.at_):TD u c:=⟨hs.i.trans h.i,hs.f.trans h.f,ha.trans h.a,by rw[hs.r];exact h.r,by rw[hs.w];exact h.w,by rw[hs.w];intro k hk;rw[←h.x k hk];unfold zj;rw[hs.x],h.n⟩
theorem Sim.one(h:Sim S X v C L)(hs:StOk S X)(hL:L y c)(ha:a∈S.active_)(ht:idx X a=some t)(hd:TD t c){x z:Int}{e:TDeal}(hx:x∈S.active_)(hu:idx X x=some u)(he:TD u e)(hz:L z e):x≠a↔z≠y:=by
 constructor
 ·rintro hne rfl
  cases h.a5 z c e hL hz
  exact hne (hs.ai x hx a ha u t hu ht (he.i.trans hd.i.symm))
 ·rintro hne rfl
  cases qB ht hu
  exact hne (h.a3 z e y c hz hL (he.i.symm.trans hd.i)).1
theorem wA{l:List Int}{x a:Int}:x∈l.filter (fun x=>!(decide (x=a)))↔x∈l∧x≠a:=by simp[List.mem_filter]
theorem Sim.drop(h:Sim S X v C L)(hs:StOk S X)(ha:a∈S.active_)(ht:idx X a=some t)(hL:L y c)(hd:TD t c){b:List Int}{f:Int}(hb:∀x∈S.active_,x≠a→∀t,idx X x=some t→t.from_∈b∧f≤t.from_) :
  Sim ⟨S.logs_,S.half_,S.gen_,S.down_,S.now_,S.items_.map (fun x=>left x b S.now_),S.active_.filter (fun x=>!(decide (x=a))),S.over_.filter fun x=>!(decide ((qfL X x).at_≤f))⟩ X v C (Wo L y):=by
 refine⟨fun x hx=>?_,fun z e hz=>?_,fun z e z' e' h1 h2=>h.a3 z e z' e' h1.2 h2.2,fun z e h1=>h.a4 z e h1.2,fun z e e' h1 h2=>h.a5 z e e' h1.2 h2.2,h.c1,h.c2,h.c3,fun z e e' h1 h2=>h.cl z e e' h1 h2.2,fun x hx=>h.o1 x (List.mem_filter.1 hx).1,fun z e hz x hx u hu hlt=>?_,h.nb,fun k hk l hl q hq=>?_⟩
 ·obtain⟨hx,hne⟩:=wA.1 hx
  obtain⟨u,z,e,h1,h2,h3,h4,h5⟩:=h.a1 x hx
  exact⟨u,z,e,h1,h2,h3,⟨(h.one hs hL ha ht hd hx h1 h5 h4).1 hne,h4⟩,h5⟩
 ·obtain⟨x,hx,u,hu,he⟩:=h.a2 z e hz.2
  exact⟨x,wA.2 ⟨hx,(h.one hs hL ha ht hd hx hu he hz.2).2 hz.1⟩,u,hu,he⟩
 ·obtain⟨hx,hne⟩:=wA.1 hx
  obtain⟨w,hw,u',hu',e'⟩:=h.o2 z e hz x hx u hu hlt
  have:=(hb x hx hne u hu).2
  exact⟨w,List.mem_filter.2 ⟨hw,by rw[xy hu',e'];simp;omega⟩,u',hu',e'⟩
 ·simp only[List.getElem?_map,Option.map_eq_some_iff]at hl
  obtain⟨x,hx,rfl⟩:=hl
  have hv:=hs.vs x (List.mem_of_getElem? hx)
  rcases hq with rfl|⟨w,hw,u,hu,rfl⟩
  ·rw[qdN hv (.inr rfl)]
   exact h.vl k hk x hx _ (.inl rfl)
  ·obtain⟨hw,hne⟩:=wA.1 hw
   rw[qdN hv (.inl (hb w hw hne u hu).1)]
   exact h.vl k hk x hx _ (.inr ⟨w,hw,u,hu,rfl⟩)
theorem IsV.up{k:Nat}{q q' n:Int}{x:List UInt8}(h:IsV C v k q x)(hq:∀z d,C z d→(d.at_≤q↔d.at_≤q'))(hw:wr c k=false∨q'<n):IsV (Cp C y c n) v k q' x:=by
 have no:∀d,d=cAt c n→d.at_≤q'→wr d k=true→False:=fun d e h1 h2=>by
  subst e
  rcases hw with hw|hw
  ·rw[show wr (cAt c n) k=wr c k from rfl,hw]at h2;cases h2
  ·simp only[cAt]at h1;omega
 rcases h with⟨y',c',h1,h2,h3,h4,h5⟩|⟨h1,h2⟩
 ·exact .inl ⟨y',c',.inl h1,(hq _ _ h1).1 h2,h3,h4,fun z d hz h6 h7=>by
   rcases hz with hz|⟨_,e⟩
   ·exact h5 z d hz ((hq _ _ hz).2 h6) h7
   ·exact(no d e h6 h7).elim⟩
 ·refine .inr ⟨fun z d hz h6=>?_,h2⟩
  rcases hz with hz|⟨_,e⟩
  ·exact h1 z d hz ((hq _ _ hz).2 h6)
  ·rw[Bool.eq_false_iff];exact fun h7=>no d e h6 h7
theorem qiH{x:List TVersion}{n q:Int}{w:List UInt8}(h:q<n):rdv (x++[⟨n,w⟩]) q=rdv x q:=by
 unfold rdv vis
 rw[List.filter_append,show[(⟨n,w⟩:TVersion)].filter (fun v=>decide (v.At≤q))=[] by simp;omega,List.append_nil]
theorem qiI{x:List TVersion}{n:Int}{w:List UInt8}:rdv (x++[⟨n,w⟩]) n=w:=by
 unfold rdv vis
 rw[List.filter_append];simp
theorem qkA{x:List TVersion}{n q:Int}(h:∀v∈x,v.At≤n)(hq:n≤q):rdv x q=rdv x n:=by
 unfold rdv vis
 rw[List.filter_congr (q:=fun v=>decide (v.At≤n)) fun v hv=>by have:=h v hv;simp;omega]
theorem Sim.commit(h:Sim S X v C L)(hs:StOk S X)(ha:a∈S.active_)(ht:idx X a=some t)(hL:L y c)(hd:TD t c)(hm : ¬qeP C y c (S.now_+1)){ins outs:List Int}(hi:∀x,x∈ins↔x∈S.over_∧qlk X t x)(ho:∀x,x∈outs↔x∈S.over_∧qhI X t x)(hc:Com X S a t ins outs Z S'):Sim S' Z v (Cp C y c (S.now_+1)) (Wo L y):=by
 obtain⟨lk,e',b,f,hf,hb,eo,hk⟩:=hc
 have en:S'.now_=S.now_+1:=by rw[e']
 have ea:S'.active_=S.active_.filter (fun x=>!(decide (x=a))):=by rw[e']
 have a0:=(qf ht).1
 obtain⟨t',htt,htk⟩:=hs.ac a ha
 cases qB ht htt
 have hfr:=htk.f1
 have hf0:=htk.f0
 obtain⟨t'',y',c',q1,q2,q3,q4,q5⟩:=h.a1 a ha
 cases qB ht q1
 have hao:=hs.ao a ha
 have hni:a∉ins:=fun hh=>hao ((hi a).1 hh).1
 have hno:a∉outs:=fun hh=>hao ((ho a).1 hh).1
 have hne:∀z d,C z d→z≠y:=fun z d hz e=>h.cl z d c hz (by rw[e];exact hL)
 have hn:=h.nf
 have zx:∀x≠a,∀u,idx X x=some u→∃u',idx Z x=some u'∧SameT u u'∧u'.at_=u.at_∧(u'.in_=true↔u.in_=true∨x∈ins)∧(u'.out_=true↔u.out_=true∨x∈outs):=fun x hx u hu=>by
  obtain⟨u',g1,g2⟩:=lk.h x u (kw hu a0 hx.symm)
  exact⟨u',g1,g2.s,g2.a,by rw[g2.n];simp[hx],by rw[g2.o];simp[hx]⟩
 obtain⟨w,hw,hwf⟩:=lk.h a _ (qG ht)
 have hwa:w.at_=S.now_+1:=hwf.a
 have hwt:TD w (cAt c (S.now_+1)):=⟨hwf.s.i.trans hd.i,hwf.s.f.trans hd.f,hwa,by rw[hwf.s.r];exact hd.r,by rw[hwf.s.w];exact hd.w,fun k hk=>by
  have hs2:=hwf.s
  rw[hs2.w]at hk
  rw[show rtx (cAt c (S.now_+1)) k=rtx c k from rfl,←hd.x k hk];unfold zj;rw[hs2.x];rfl,hd.n⟩
 have aov:∀x∈S.over_,x≠a:=fun x hx e=>hao (e▸hx)
 have zin:∀x∈S.over_,∀u z d,idx X x=some u→C z d→TD u d→(x∈ins↔skp (cAt c (S.now_+1)) d)∧(x∈outs↔skp d (cAt c (S.now_+1))):=fun x hx u z d hu hz hud=>by
  rw[hi,ho,yd hd hn hz hud,yg hd hn hz hud]
  constructor
  ·exact⟨fun⟨_,u',h1,h2⟩=>by cases qB hu h1;exact h2,fun h2=>⟨hx,u,hu,h2⟩⟩
  ·exact⟨fun⟨_,u',h1,h2⟩=>by cases qB hu h1;exact h2,fun h2=>⟨hx,u,hu,h2⟩⟩
 refine⟨fun x hx=>?_,fun z e hz=>?_,fun z e z' e' h1 h2=>h.a3 z e z' e' h1.2 h2.2,fun z e h1=>h.a4 z e h1.2,fun z e e' h1 h2=>h.a5 z e e' h1.2 h2.2,?_,?_,?_,?_,fun x hx=>?_,fun z e hz x hx u hu hlt=>?_,fun z e hz hh=>hm (.inr ⟨z,e,hz,hh⟩),fun k hk' l hl q hq=>?_⟩
 ·rw[ea]at hx
  obtain⟨hx,hxa⟩:=wA.1 hx
  obtain⟨u,z,e,h1,h2,h3,h4,h5⟩:=h.a1 x hx
  obtain⟨u',g1,g2,g3,g4,g5⟩:=zx x hxa u h1
  have hxo:=hs.ao x hx
  refine⟨u',z,e,g1,?_,?_,⟨(h.one hs hL ha ht hd hx h1 h5 h4).1 hxa,h4⟩,h5.like g2 g3⟩
  ·rw[Bool.eq_false_iff,Ne,g4,h2];simp[hi,hxo]
  ·rw[Bool.eq_false_iff,Ne,g5,h3];simp[ho,hxo]
 ·obtain⟨x,hx,u,hu,he⟩:=h.a2 z e hz.2
  have hxa:=(h.one hs hL ha ht hd hx hu he hz.2).2 hz.1
  obtain⟨u',g1,g2,g3,_⟩:=zx x hxa u hu
  exact⟨x,by rw[ea];exact wA.2 ⟨hx,hxa⟩,u',g1,he.like g2 g3⟩
 ·rintro z e (hz|⟨rfl,rfl⟩)
  ·have:=h.c1 z e hz;rw[en];omega
  ·rw[en];have:=hd.f;simp only[cAt];omega
 ·rintro z e z' e' (hz|⟨rfl,rfl⟩) (hz' | ⟨rfl,rfl⟩) hh
  ·exact h.c2 z e z' e' hz hz' hh
  ·have:=h.c1 z e hz;simp only[cAt]at hh;omega
  ·have:=h.c1 z' e' hz';simp only[cAt]at hh;omega
  ·exact⟨rfl,rfl⟩
 ·rintro z e e' (hz|⟨rfl,rfl⟩) (hz' | ⟨h1,rfl⟩)
  ·exact h.c3 z e e' hz hz'
  ·exact absurd h1 (hne z e hz)
  ·exact absurd rfl (hne _ _ hz')
  ·rfl
 ·rintro z e e' (hz|⟨rfl,rfl⟩) h2
  ·exact h.cl z e e' hz h2.2
  ·exact h2.1 rfl
 ·rw[eo]at hx
  rcases List.mem_append.1 (List.mem_filter.1 hx).1 with hx|hx
  ·obtain⟨u,z,e,h1,h2,h3,h4,h5⟩:=h.o1 x hx
   obtain⟨u',g1,g2,g3,g4,g5⟩:=zx x (aov x hx) u h1
   obtain⟨zi,zo⟩:=zin x hx u z e h1 h2 h3
   refine⟨u',z,e,g1,.inl h2,h3.like g2 g3,?_,?_⟩
   ·rw[g4,h4,zi]
    constructor
    ·rintro(⟨z',d',p1,p2⟩|p)
     ·exact⟨z',d',.inl p1,p2⟩
     ·exact⟨y,_,.inr ⟨rfl,rfl⟩,(hne z e h2).symm,p⟩
    ·rintro⟨z',d',p1|⟨rfl,rfl⟩,p2,p3⟩
     ·exact .inl ⟨z',d',p1,p2,p3⟩
     ·exact .inr p3
   ·rw[g5,h5,zo]
    constructor
    ·rintro(⟨z',d',p1,p2⟩|p)
     ·exact⟨z',d',.inl p1,p2⟩
     ·exact⟨y,_,.inr ⟨rfl,rfl⟩,(hne z e h2).symm,p⟩
    ·rintro⟨z',d',p1|⟨rfl,rfl⟩,p2,p3⟩
     ·exact .inl ⟨z',d',p1,p2,p3⟩
     ·exact .inr p3
  ·rw[List.mem_singleton]at hx
   subst hx
   refine⟨w,y,_,hw,.inr ⟨rfl,rfl⟩,hwt,?_,?_⟩
   ·rw[hwf.n]
    constructor
    ·rintro(p|p|⟨_,p⟩)
     ·exact absurd (show t.in_=true from p) (by rw[q2];simp)
     ·exact absurd p hni
     ·obtain⟨x',hx'⟩:=List.exists_mem_of_ne_nil _ p
      have hxo:=((ho x').1 hx').1
      obtain⟨u,z,e,h1,h2,h3,_⟩:=h.o1 x' hxo
      exact⟨z,e,.inl h2,hne z e h2,(zin x' hxo u z e h1 h2 h3).2.1 hx'⟩
    ·rintro⟨z,e,p1|⟨rfl,rfl⟩,p2,p3⟩
     ·obtain⟨x',hx',u,hu,g1,_⟩:=h.at ha ht p1 (by rw[hd.f];exact p3.1)
      exact .inr (.inr ⟨rfl,List.ne_nil_of_mem ((zin x' hx' u z e hu p1 g1).2.2 p3)⟩)
     ·exact absurd rfl p2
   ·rw[hwf.o]
    constructor
    ·rintro(p|⟨_,p⟩|p)
     ·exact absurd (show t.out_=true from p) (by rw[q3];simp)
     ·obtain⟨x',hx'⟩:=List.exists_mem_of_ne_nil _ p
      have hxo:=((hi x').1 hx').1
      obtain⟨u,z,e,h1,h2,h3,_⟩:=h.o1 x' hxo
      exact⟨z,e,.inl h2,hne z e h2,(zin x' hxo u z e h1 h2 h3).1.1 hx'⟩
     ·exact absurd p hno
    ·rintro⟨z,e,p1|⟨rfl,rfl⟩,p2,p3⟩
     ·obtain⟨x',hx',u,hu,g1,_⟩:=h.at ha ht p1 (by rw[hd.f];exact p3.2.1)
      exact .inr (.inl ⟨rfl,List.ne_nil_of_mem ((zin x' hx' u z e hu p1 g1).1.2 p3)⟩)
     ·exact absurd rfl p2
 ·rw[ea]at hx
  obtain⟨hx,hxa⟩:=wA.1 hx
  obtain⟨u0,hu0,hk0⟩:=hs.ac x hx
  obtain⟨u',g1,g2,g3,_⟩:=zx x hxa u0 hu0
  cases qB hu g1
  have hb1:=(hb x hx hxa u0 hu0).2
  have hf1:=hk0.f1
  have hfe:=g2.f
  rcases hz with hz|⟨rfl,rfl⟩
  ·obtain⟨z',hz',u1,hu1,e1⟩:=h.o2 z e hz x hx u0 hu0 (by omega)
   obtain⟨u2,k1,k2,k3,_⟩:=zx z' (aov z' hz') u1 hu1
   exact⟨z',by rw[eo];exact List.mem_filter.2 ⟨List.mem_append_left _ hz',by rw[xy k1,k3,e1];simp;omega⟩,u2,k1,k3.trans e1⟩
  ·exact⟨a,by rw[eo];exact List.mem_filter.2 ⟨by simp,by rw[xy hw,hwa];simp;omega⟩,w,hw,hwa⟩
 ·obtain⟨x,l',hx,hl',hr⟩:=hk k hk'
  rw[hl]at hl'
  cases hl'
  have hv:=hs.vs x (List.mem_of_getElem? hx)
  have hvb:∀v∈x,v.At≤S.now_:=fun v hv'=>(hv.b v hv').2.1
  have hcn:∀z d,C z d→d.at_≤S.now_:=fun z d hz=>(h.c1 z d hz).2.2
  rcases hq with rfl|⟨x',hx',u,hu,rfl⟩
  ·rw[en,hr _ (.inl rfl)]
   by_cases cw:(k:Int)∈t.writes_
   ·rw[if_pos cw,qiI]
    refine .inl ⟨y,_,.inr ⟨rfl,rfl⟩,Int.le_refl _,(hd.w _).1 cw,hd.x _ cw,fun z d hz h1 _=>h1⟩
   ·rw[if_neg cw,qkA hvb (by omega)]
    exact(h.vl k hk' x hx _ (.inl rfl)).up (fun z d hz=>by have:=hcn z d hz;omega) (.inl (by rw[Bool.eq_false_iff];exact fun hh=>cw ((hd.w _).2 hh)))
  ·rw[ea]at hx'
   obtain⟨hx',hxa⟩:=wA.1 hx'
   obtain⟨u0,hu0,hk0⟩:=hs.ac x' hx'
   obtain⟨u',g1,g2,g3,_⟩:=zx x' hxa u0 hu0
   cases qB hu g1
   have hf1:=hk0.f1
   rw[g2.f,hr _ (.inr (hb x' hx' hxa u0 hu0).1)]
   have h9:=h.vl k hk' x hx _ (.inr ⟨x',hx',u0,hu0,rfl⟩)
   have h10:=h9.up (c:=c) (y:=y) (n:=S.now_+1) (q':=u0.from_) (fun _ _ _=>Iff.rfl) (.inr (by omega))
   split
   ·rw[qiH (by omega)];exact h10
   ·exact h10
end
end Go.Proofs.YtloiiohoelhldaaGreatDoor
end
section
namespace Go.Proofs.YtloiiohoelhldaaGreatDoor
open Go.S
def Wn(L:Rl)(y:Int)(c:TDeal):Rl:=fun z d=>L z d∨(z=y∧d=c)
def qdK(id now:Int):TDeal:=⟨id,now,0,false,[],some []⟩
section
variable{S:TStore}{X:List Ttx}{v:SS}{C L:Rl}{a y:Int}{t u:Ttx}{c d:TDeal}
theorem qbj{α:Type}{l:List α}{x:Int}{t u:α}(h:idx (l++[u]) x=some t)(hne:x≠l.length):idx l x=some t:=by
 obtain⟨h0,h1,h2⟩:=qf h
 have hx:x.toNat<l.length:=by simp at h1;omega
 unfold idx
 rw[if_pos h0,←h2,List.getElem?_append_left hx]
theorem Sim.begun(h:Sim S X v C L)(hs:StOk S X){id:Int}(hid:∀x∈S.active_,∀t,idx X x=some t→t.id_≠id)(h1:∀d,¬L y d)(h2:∀d,¬C y d):Sim (begun S X.length) (X++[xv id S.now_]) v C (Wn L y (qdK id S.now_)):=by
 have hnew:idx (X++[xv id S.now_]) (X.length:Int)=some (xv id S.now_):=qZ _ _
 have hlt:∀x∈S.active_,x≠(X.length:Int):=fun x hx e=>by have:=hs.ac.lt x hx;omega
 have hmem:∀x,x∈(Go.Proofs.YtloiiohoelhldaaGreatDoor.begun S X.length).active_↔x∈S.active_∨x=(X.length:Int):=fun x=>by simp[Go.Proofs.YtloiiohoelhldaaGreatDoor.begun]
 have hli:∀z e,L z e→e.id_≠id:=fun z e hz=>by
  obtain⟨x,hx,u,hu,he⟩:=h.a2 z e hz
  exact fun e'=>hid x hx u hu (he.i.trans e')
 refine⟨fun x hx=>?_,?_,?_,?_,?_,h.c1,h.c2,h.c3,?_,fun x hx=>?_,fun z e hz x hx u hu hf=>?_,h.nb,fun k hk l hl q hq=>h.vl k hk l hl q ?_⟩
 ·rcases(hmem x).1 hx with hx|rfl
  ·obtain⟨t,z,e,g1,g2,g3,g4,g5⟩:=h.a1 x hx
   exact⟨t,z,e,xn g1,g2,g3,.inl g4,g5⟩
  ·exact⟨_,y,_,hnew,rfl,rfl,.inr ⟨rfl,rfl⟩,rfl,rfl,rfl,by simp[xv,qdK],by simp[xv,qdK,wr,moL,vp],by simp[xv],_,rfl⟩
 ·rintro z e (hz|⟨rfl,rfl⟩)
  ·obtain⟨x,hx,u,hu,he⟩:=h.a2 z e hz
   exact⟨x,(hmem x).2 (.inl hx),u,xn hu,he⟩
  ·exact⟨_,(hmem _).2 (.inr rfl),_,hnew,rfl,rfl,rfl,by simp[xv,qdK],by simp[xv,qdK,wr,moL,vp],by simp[xv],_,rfl⟩
 ·rintro z e z' e' (hz|⟨rfl,rfl⟩) (hz' | ⟨rfl,rfl⟩) hh
  ·exact h.a3 z e z' e' hz hz' hh
  ·exact absurd hh (hli z e hz)
  ·exact absurd hh.symm (hli z' e' hz')
  ·exact⟨rfl,rfl⟩
 ·rintro z e (hz|⟨rfl,rfl⟩)
  ·exact h.a4 z e hz
  ·exact⟨rfl,rfl⟩
 ·rintro z e e' (hz|⟨rfl,rfl⟩) (hz' | ⟨hh,rfl⟩)
  ·exact h.a5 z e e' hz hz'
  ·subst hh;exact absurd hz (h1 e)
  ·exact absurd hz' (h1 e')
  ·rfl
 ·rintro z e e' hz (hz' | ⟨rfl,rfl⟩)
  ·exact h.cl z e e' hz hz'
  ·exact h2 e hz
 ·obtain⟨t,z,e,g1,g2⟩:=h.o1 x hx
  exact⟨t,z,e,xn g1,g2⟩
 ·rcases(hmem x).1 hx with hx|rfl
  ·obtain⟨w,hw,u',hu',e'⟩:=h.o2 z e hz x hx u (qbj hu (hlt x hx)) hf
   exact⟨w,hw,u',xn hu',e'⟩
  ·cases qB hnew hu
   have:=h.c1 z e hz
   simp only[xv]at hf;omega
 ·rcases hq with hq|⟨x,hx,t,ht,rfl⟩
  ·exact .inl hq
  ·rcases(hmem x).1 hx with hx|rfl
   ·exact .inr ⟨x,hx,t,qbj ht (hlt x hx),rfl⟩
   ·cases qB hnew ht;exact .inl rfl
theorem Sim.change(h:Sim S X v C L)(hs:StOk S X)(ha:a∈S.active_)(ht:idx X a=some t)(hL:L y c)(hd:TD t c)(hk:Kin t u)(hu:TD u d)(ho:d.over_=false):Sim S (X.set a.toNat u) v C (Wi L y d):=by
 have hset:idx (X.set a.toNat u) a=some u:=qG ht
 have a0:=(qf ht).1
 have hoth:∀{x w},idx X x=some w→x≠a→idx (X.set a.toNat u) x=some w:=fun hw hne=>kw hw a0 hne.symm
 have back:∀{x w},idx (X.set a.toNat u) x=some w→∃w',idx X x=some w'∧w'.from_=w.from_:=fun {x w} hw=>by
  by_cases e:x=a
  ·subst e;cases qB hset hw;exact⟨t,ht,hk.f.symm⟩
  ·obtain⟨w',hw'⟩:=qey (l:=X) (qf hw).1 (by have:=(qf hw).2.1;simpa using this)
   cases qB (hoth hw' e) hw;exact⟨_,hw',rfl⟩
 have hid:d.id_=c.id_:=by rw[←hu.i,hk.i,hd.i]
 have hid2:∀z e,L z e→z≠y→e.id_≠c.id_:=fun z e hz hne e'=>hne (h.a3 z e y c hz hL e').1
 refine⟨fun x hx=>?_,?_,?_,?_,?_,h.c1,h.c2,h.c3,?_,fun x hx=>?_,fun z e hz x hx w hw hf=>?_,h.nb,fun k hk l hl q hq=>h.vl k hk l hl q (hq.imp_right fun⟨x,hx,w,hw,e⟩=>?_)⟩
 ·obtain⟨w,z,e,g1,g2,g3,g4,g5⟩:=h.a1 x hx
  by_cases e':x=a
  ·subst e'
   cases qB ht g1
   exact⟨u,y,d,hset,hk.n.trans g2,hk.o.trans g3,.inr ⟨rfl,rfl⟩,hu⟩
  ·exact⟨w,z,e,hoth g1 e',g2,g3,.inl ⟨(h.one hs hL ha ht hd hx g1 g5 g4).1 e',g4⟩,g5⟩
 ·rintro z e (⟨hne,hz⟩|⟨rfl,rfl⟩)
  ·obtain⟨x,hx,w,hw,he⟩:=h.a2 z e hz
   exact⟨x,hx,w,hoth hw ((h.one hs hL ha ht hd hx hw he hz).2 hne),he⟩
  ·exact⟨a,ha,u,hset,hu⟩
 ·rintro z e z' e' (⟨n1,hz⟩|⟨rfl,rfl⟩) (⟨n2,hz'⟩|⟨rfl,rfl⟩) hh
  ·exact h.a3 z e z' e' hz hz' hh
  ·exact absurd (hh.trans hid) (hid2 z e hz n1)
  ·exact absurd (hh.symm.trans hid) (hid2 z' e' hz' n2)
  ·exact⟨rfl,rfl⟩
 ·rintro z e (⟨_,hz⟩|⟨rfl,rfl⟩)
  ·exact h.a4 z e hz
  ·exact⟨by rw[←hu.a,hk.a,hd.a];exact(h.a4 _ _ hL).1,ho⟩
 ·rintro z e e' (⟨n1,hz⟩|⟨hh,rfl⟩) (⟨n2,hz'⟩|⟨hh',rfl⟩)
  ·exact h.a5 z e e' hz hz'
  ·exact absurd hh' n1
  ·exact absurd hh n2
  ·rfl
 ·rintro z e e' hz (⟨_,hz'⟩|⟨rfl,rfl⟩)
  ·exact h.cl z e e' hz hz'
  ·exact h.cl z e c hz hL
 ·obtain⟨w,z,e,g1,g2⟩:=h.o1 x hx
  exact⟨w,z,e,hoth g1 fun e'=>hs.ao a ha (e'▸hx),g2⟩
 ·obtain⟨w',hw',e'⟩:=back hw
  obtain⟨p,hp,u',hu',e2⟩:=h.o2 z e hz x hx w' hw' (by omega)
  exact⟨p,hp,u',hoth hu' fun e'=>hs.ao a ha (e'▸hp),e2⟩
 ·obtain⟨w',hw',e'⟩:=back hw
  exact⟨x,hx,w',hw',e'.trans e⟩
end
end Go.Proofs.YtloiiohoelhldaaGreatDoor
end
section
namespace Go.Proofs.YtloiiohoelhldaaGreatDoor
open Go.S
def Lv(Y:List TDeal)(dl:List Int):Rl:=fun y c=>y∈dl∧idx Y y=some c∧c.over_=false
def Cm(Y:List TDeal)(dl:List Int):Rl:=fun y c=>y∈dl∧idx Y y=some c∧c.at_≠0
structure Dls(Y:List TDeal)(dl:List Int)(B:Nat):Prop where
 d:∀y∈dl,∃c,idx Y y=some c∧c.Ops.length≤B∧(moL c.texts_).length≤B∧(c.at_≠0→∃m,c.texts_=some m)
 n:dl.Nodup
 l:dl.length≤B
 b:B≤2513169434000
def rs(S:TStore)(v:SS)(dl:List Int):TStore81:=⟨S.logs_,S.half_,S.gen_,S.down_,S.now_,v,dl⟩
section
variable{T:List TStore}{X:List Ttx}{s u:Int}{S:TStore}{U:List TStore81}{Y:List TDeal}{v:SS}{dl:List Int}{B:Nat}
theorem qhB(id:Int)(h:Dls Y dl B):∀(r i:Nat),i+r=dl.length→∀n,r<n →
  ∃k,va (rs S v dl) Y id n (i:Int)=some k∧((0≤k∧∃c,Lv Y dl k c∧c.id_=id)∨(k=-1∧∀y∈dl.drop i,∀c,idx Y y=some c→c.over_=false→c.id_≠id)):=by
 have hb:=h.b
 have hl:=h.l
 intro r
 induction r with
 | zero =>
  intro i hi n hn
  obtain⟨n,rfl⟩:=Nat.exists_eq_add_one.2 hn
  rw[va,qcc,if_neg (by simp only[rs];omega),List.drop_eq_nil_of_le (by omega)]
  exact⟨-1,rfl,.inr ⟨rfl,fun y hy=>by cases hy⟩⟩
 | succ r ih =>
  intro i hi n hn
  obtain⟨n,rfl⟩:=Nat.exists_eq_add_one.2 (show 0<n by omega)
  have h1:i<dl.length:=by omega
  obtain⟨c,hc,_⟩:=h.d dl[i] (List.getElem_mem h1)
  obtain⟨k,e,g⟩:=ih (i+1) (by omega) n (by omega)
  have go : ¬(c.id_=id∧c.over_=false)→∃k,va (rs S v dl) Y id n ((i+1:Nat):Int)=some k∧((0≤k∧∃c,Lv Y dl k c∧c.id_=id)∨(k=-1∧∀y∈dl[i]::dl.drop (i+1),∀c,idx Y y=some c→c.over_=false→c.id_≠id)):=fun hn=>by
   refine⟨k,e,g.imp_right fun⟨g1,g2⟩=>⟨g1,fun y hy d hd ho=>?_⟩⟩
   rcases List.mem_cons.1 hy with rfl|hy
   ·cases qB hc hd;exact fun e=>hn ⟨e,ho⟩
   ·exact g2 y hy d hd ho
  rw[va,qcc,if_pos (by simp only[rs];omega),show(rs S v dl).deals_=dl from rfl,qp h1,qa,hc,qa,kh h1,qD i (by omega),qa]
  by_cases c1:c.id_=id
  ·rw[if_pos c1]
   cases co:c.over_ with
   | true=>rw[if_pos rfl];exact go fun h=>by rw[co]at h;cases h.2
   | false =>
    rw[if_neg ff]
    exact⟨_,rfl,.inl ⟨(qf hc).1,c,⟨List.getElem_mem h1,hc,co⟩,c1⟩⟩
  ·rw[if_neg c1];exact go fun h=>c1 h.1
theorem qk8(hu:idx U u=some (rs S v dl))(hlg:S.logs_.length=2)(hv:v.length=20)(h:Dls Y dl B)(id:Int):∃k,qlE u id U Y=some k∧((0≤k∧∃c,Lv Y dl k c∧c.id_=id)∨(k=-1∧∀y c,Lv Y dl y c→c.id_≠id)):=by
 obtain⟨k,e,g⟩:=qhB (S:=S) (v:=v) id h dl.length 0 (by omega) big (by have:=h.l;have:=h.b;rw[qv];omega)
 refine⟨k,?_,g.imp_right fun⟨g1,g2⟩=>⟨g1,fun y c hy=>g2 y hy.1 c hy.2.1 hy.2.2⟩⟩
 rw[qlE,hu,qa,qh (show(rs S v dl).logs_.length=2 from hlg),qa,qh (show(rs S v dl).first_.length=20 from hv),qa]
 exact e
theorem qnT(hs:idx T s=some S)(h:StOk S X)(hu:idx U u=some (rs S v dl))(hv:v.length=20)(hd:Dls Y dl B){C:Rl}(hm:Sim S X v C (Lv Y dl))(id:Int):∃k k',M55 s id T X=some k∧qlE u id U Y=some k' ∧
  ((0≤k∧0≤k'∧k∈S.active_∧∃t c,idx X k=some t∧Lv Y dl k' c∧TD t c)∨(k=-1∧k'=-1∧∀x∈S.active_,∀t,idx X x=some t→t.id_≠id)):=by
 obtain⟨k,e,g⟩:=qk0 hs h id
 obtain⟨k',e',g'⟩:=qk8 hu h.lg hv hd id
 refine⟨k,k',e,e',?_⟩
 rcases g with⟨g0,g1,t,g2,g3⟩|⟨g1,g2⟩
 ·obtain⟨t',y,c,q1,_,_,q2,q3⟩:=hm.a1 k g1
  cases qB g2 q1
  rcases g' with⟨p1,d,p2,p3⟩|⟨_,p⟩
  ·obtain⟨rfl,rfl⟩:=hm.a3 y c k' d q2 p2 (by rw[←q3.i,g3,p3])
   exact .inl ⟨g0,p1,g1,t,c,g2,q2,q3⟩
  ·exact absurd (q3.i.symm.trans g3) (p y c q2)
 ·rcases g' with⟨p1,d,p2,p3⟩|⟨p,_⟩
  ·obtain⟨x,hx,t,ht,hd⟩:=hm.a2 k' d p2
   exact absurd (hd.i.trans p3) (g2 x hx t ht)
  ·exact .inr ⟨g1,p,g2⟩
theorem w7(hs:idx T s=some S)(h:StOk S X)(hu:idx U u=some (rs S v dl))(hv:v.length=20)(hd:Dls Y dl B){C:Rl}(hm:Sim S X v C (Lv Y dl))(id item:Int) :
  (∃e,e≠0∧M56 s id item T X=some (-1,e)∧M68 u id item false U Y=some (-1,e)) ∨
  ∃a y t c,M56 s id item T X=some (a,0)∧M68 u id item false U Y=some (y,0)∧S.down_=false∧0≤item∧item<20∧a∈S.active_∧idx X a=some t∧Lv Y dl y c∧TD t c:=by
 obtain⟨k,k',e,e',g⟩:=qnT hs h hu hv hd hm id
 have hdw:(rs S v dl).down_=S.down_:=rfl
 rw[M56,hs,qa,qh h.lg,qa,M68,hu,qa,e',qa,qa,qh (show(rs S v dl).logs_.length=2 from h.lg),qa,hdw]
 simp only[qgh,qd3,qd2,qd1,qd0,e,hs,qa,if_neg ff,if_true,ite_self]
 cases hdn:S.down_ with
 | true=>exact .inl ⟨13,by simp,by simp,by simp⟩
 | false =>
  simp only[if_neg ff]
  by_cases c1:id<0
  ·exact .inl ⟨1,by simp,by rw[if_pos c1],by rw[if_pos c1]⟩
  by_cases c2:12≤id
  ·exact .inl ⟨1,by simp,by rw[if_neg c1,if_pos c2],by rw[if_neg c1,if_pos (by omega)]⟩
  rw[if_neg c1,if_neg c2,if_neg c1,if_neg (show ¬11<id by omega)]
  by_cases c3:item<0
  ·exact .inl ⟨1,by simp,by rw[if_pos c3],by rw[if_pos c3]⟩
  by_cases c4:20≤item
  ·exact .inl ⟨1,by simp,by rw[if_neg c3,if_pos c4],by rw[if_neg c3,if_pos (by omega)]⟩
  rw[if_neg c3,if_neg c4,if_neg c3,if_neg (show ¬19<item by omega)]
  rcases g with⟨g1,g2,g3,t,c,g4,g5,g6⟩|⟨rfl,rfl,_⟩
  ·rw[if_pos g1,if_neg (by omega)]
   exact .inr ⟨k,k',t,c,rfl,rfl,⟨⟩,by omega,by omega,g3,g4,g5,g6⟩
  ·exact .inl ⟨6,by simp,by simp,by simp⟩
end
end Go.Proofs.YtloiiohoelhldaaGreatDoor
end
section
namespace Go.Proofs.YtloiiohoelhldaaGreatDoor
open Go.S
theorem IsV.eq{C:Rl}{v:SS}{k:Nat}{q:Int}{x x':List UInt8}(h2:∀y c z d,C y c→C z d→c.at_=d.at_→y=z∧c=d)(h:IsV C v k q x)(h':IsV C v k q x'):x=x':=by
 rcases h with⟨y,c,a1,a2,a3,a4,a5⟩|⟨a1,a2⟩<;>rcases h' with⟨z,d,b1,b2,b3,b4,b5⟩|⟨b1,b2⟩
 ·obtain⟨_,rfl⟩:=h2 y c z d a1 b1 (by have:=a5 z d b1 b2 b3;have:=b5 y c a1 a2 a3;omega)
  rw[a4,b4]
 ·rw[b1 y c a1 a2]at a3;cases a3
 ·rw[a1 z d b1 b2]at b3;cases b3
 ·rw[a2,b2]
section
variable{S:TStore}{U:List TStore81}{Y:List TDeal}{v:SS}{dl:List Int}{B:Nat}{u:Int}
def VA(Y:List TDeal)(dl:List Int)(v:SS)(k:Nat)(q:Int)(L:List Int)(x:List UInt8)(at':Int):Prop:=0≤at'∧(at'=0→x=v.getD k [])∧(at'≠0→∃y c,Cm Y dl y c∧c.at_=at'∧at'≤q∧wr c k=true∧x=rtx c k) ∧
 ∀y c,Cm Y dl y c→c.at_≤q→wr c k=true→y∈L∨c.at_≤at'
theorem qix(h:Dls Y dl B)(hp:∀y c,Cm Y dl y c→0<c.at_)(k:Nat)(q:Int):∀(r i:Nat),i+r=dl.length→∀n,r<n→∀x a,VA Y dl v k q (dl.drop i) x a →
  ∃x',qat (rs S v dl) Y (k:Int) q n x a (i:Int)=some x'∧IsV (Cm Y dl) v k q x':=by
 have hb:=h.b
 have hl:=h.l
 intro r
 induction r with
 | zero =>
  rintro i hi n hn x a ⟨h0,h1,h2,h3⟩
  obtain⟨n,rfl⟩:=Nat.exists_eq_add_one.2 hn
  rw[qat,qfl,if_neg (by simp only[rs];omega),qjy]
  rw[List.drop_eq_nil_of_le (by omega)]at h3
  have h4:∀y c,Cm Y dl y c→c.at_≤q→wr c k=true→c.at_≤a:=fun y c g1 g2 g3=>(h3 y c g1 g2 g3).resolve_left (by simp)
  refine⟨x,rfl,?_⟩
  by_cases c:a=0
  ·refine .inr ⟨fun z d hz hq=>?_,h1 c⟩
   rw[Bool.eq_false_iff]
   intro hw
   have:=h4 z d hz hq hw
   have:=hp z d hz
   omega
  ·obtain⟨y,d,g1,g2,g3,g4,g5⟩:=h2 c
   exact .inl ⟨y,d,g1,by omega,g4,g5,fun z e hz hq hw=>by have:=h4 z e hz hq hw;omega⟩
 | succ r ih =>
  rintro i hi n hn x a ⟨h0,h1,h2,h3⟩
  obtain⟨n,rfl⟩:=Nat.exists_eq_add_one.2 (show 0<n by omega)
  have h5:i<dl.length:=by omega
  obtain⟨c,hc,_⟩:=h.d dl[i] (List.getElem_mem h5)
  rw[kh h5]at h3
  rw[qat,qfl,if_pos (by simp only[rs];omega),show(rs S v dl).deals_=dl from rfl,qp h5,qa,hc,qa]
  simp only[qh0,if_true,if_neg ff,hc,qa,qD i (show i<9223372036854775807 by omega)]
  have stay : ¬(wr c k=true∧a<c.at_∧c.at_≤q)→∃x',qat (rs S v dl) Y (k:Int) q n x a ((i+1:Nat):Int)=some x'∧IsV (Cm Y dl) v k q x':=fun hno=>by
   refine ih (i+1) (by omega) n (by omega) x a ⟨h0,h1,h2,fun y d hy hq hw=>?_⟩
   rcases h3 y d hy hq hw with h6|h6
   ·rcases List.mem_cons.1 h6 with rfl|h6
    ·cases qB hc hy.2.1
     exact .inr (by
      by_cases e:a<c.at_
      ·exact absurd ⟨hw,e,hq⟩ hno
      ·omega)
    ·exact .inl h6
   ·exact .inr h6
  have ew:vp (moL c.texts_) (k:Int)=wr c k:=rfl
  rw[ew]
  by_cases cw:wr c k=true
  ·rw[if_pos cw]
   by_cases c1:a<c.at_
   ·rw[if_pos c1]
    by_cases c2:c.at_≤q
    ·rw[if_pos c2]
     have hcm:Cm Y dl dl[i] c:=⟨List.getElem_mem h5,hc,by omega⟩
     refine ih (i+1) (by omega) n (by omega) _ _ ⟨by omega,fun e=>by omega,fun _=>⟨_,c,hcm,rfl,c2,cw,rfl⟩,fun y d hy hq hw=>?_⟩
     rcases h3 y d hy hq hw with h6|h6
     ·rcases List.mem_cons.1 h6 with rfl|h6
      ·cases qB hc hy.2.1;exact .inr (Int.le_refl _)
      ·exact .inl h6
     ·exact .inr (by omega)
    ·rw[if_neg c2];exact stay fun hh=>c2 hh.2.2
   ·rw[if_neg c1];exact stay fun hh=>c1 hh.2.1
  ·rw[if_neg cw];exact stay fun hh=>cw hh.1
theorem qjK(hu:idx U u=some (rs S v dl))(hlg:S.logs_.length=2)(hv:v.length=20)(h:Dls Y dl B)(hp:∀y c,Cm Y dl y c→0<c.at_)(k:Nat)(hk:k<20)(q:Int):∃x,M37 u (k:Int) q U Y=some x∧IsV (Cm Y dl) v k q x:=by
 have h1:zd 20 v (k:Int)=some (v.getD k []):=by
  obtain⟨x,e1,e2⟩:=jx (k:=(k:Int)) hv (by omega) (by omega)
  rw[e1,List.getD_eq_getElem?_getD,←jw,e2];rfl
 rw[M37,hu,qa,show(rs S v dl).first_=v from rfl,h1,qa,qh (show(rs S v dl).logs_.length=2 from hlg),qa,qh hv,qa]
 exact qix h hp k q dl.length 0 (by omega) big (by have:=h.l;have:=h.b;rw[qv];omega) _ 0 ⟨Int.le_refl _,fun _=>rfl,fun e=>absurd rfl e,fun y c hy _ _=>.inl hy.1⟩
theorem qfP{a b:Int}{ca cb:TDeal}(hb:idx Y b=some cb)(hne:b≠a)(hl:ca.Ops.length≤2513169434000):∀(r i:Nat),i+r=ca.Ops.length→∀n,r<n→∃x,vW ca Y b a n (i:Int)=some x∧(x=true↔∃o∈ca.Ops.drop i,wr cb o.Item=true):=by
 intro r
 induction r with
 | zero =>
  intro i hi n hn
  obtain⟨n,rfl⟩:=Nat.exists_eq_add_one.2 hn
  rw[vW,qcb,if_neg (by omega),List.drop_eq_nil_of_le (by omega)]
  exact⟨false,rfl,by simp⟩
 | succ r ih =>
  intro i hi n hn
  obtain⟨n,rfl⟩:=Nat.exists_eq_add_one.2 (show 0<n by omega)
  have h5:i<ca.Ops.length:=by omega
  rw[vW,qcb,if_pos (by omega),qp h5,qa,hb,qa,zf hne,qa,kh h5,qfC,qD i (by omega),qa]
  have ew:vp (moL cb.texts_) ca.Ops[i].Item=wr cb ca.Ops[i].Item:=rfl
  rw[ew]
  by_cases cw:wr cb ca.Ops[i].Item=true
  ·rw[if_pos cw]
   exact⟨true,by simp[qdu,qfD],fun _=>⟨_,List.mem_cons_self,cw⟩,fun _=>rfl⟩
  ·rw[if_neg cw]
   obtain⟨x,e,g⟩:=ih (i+1) (by omega) n (by omega)
   exact⟨x,e,g.trans ⟨fun⟨o,h1,h2⟩=>⟨o,.tail _ h1,h2⟩,fun⟨o,h1,h2⟩=>(List.mem_cons.1 h1).elim (fun e=>absurd (e▸h2) cw) fun h=>⟨o,h,h2⟩⟩⟩
theorem qiA{a b:Int}{ca cb:TDeal}(ha:idx Y a=some ca)(hb:idx Y b=some cb)(hne:a≠b)(hl:ca.Ops.length≤2513169434000)(p q:Int):∃x,qkh a b p q Y=some x∧(x=true↔cb.from_<p∧ca.from_<q∧∃o∈ca.Ops,wr cb o.Item=true):=by
 rw[qkh,hb,qa,ha,qa]
 by_cases c1:p≤cb.from_
 ·rw[if_pos c1];exact⟨_,rfl,by simp;omega⟩
 by_cases c2:q≤ca.from_
 ·rw[if_neg c1,if_pos c2];exact⟨_,rfl,by simp;omega⟩
 rw[if_neg c1,if_neg c2]
 obtain⟨x,e,g⟩:=qfP hb hne.symm hl ca.Ops.length 0 (by omega) big (by rw[qv];omega)
 exact⟨x,e,by rw[g,List.drop_zero];exact⟨fun h=>⟨by omega,by omega,h⟩,fun h=>h.2.2⟩⟩
end
end Go.Proofs.YtloiiohoelhldaaGreatDoor
end
section
namespace Go.Proofs.YtloiiohoelhldaaGreatDoor
open Go.S
section
variable{S:TStore}{U:List TStore81}{Y:List TDeal}{v:SS}{dl:List Int}{B:Nat}{u y:Int}{c:TDeal}
def E(Y:List TDeal)(y:Int)(c:TDeal)(n p:Int):TDeal:=if p=y then cAt c n else Y.getD p.toNat default
theorem qn8{n p:Int}{cp:TDeal}(hy:idx Y y=some c)(hp:idx Y p=some cp):(E Y y c n p).from_=cp.from_∧(E Y y c n p).Ops=cp.Ops∧(E Y y c n p).texts_=cp.texts_∧(E Y y c n p).at_=if p=y then n else cp.at_:=by
 unfold E
 by_cases e:p=y
 ·subst e
  cases qB hy hp
  rw[if_pos rfl,if_pos rfl]
  exact⟨rfl,rfl,rfl,rfl⟩
 ·obtain⟨_,_,h2⟩:=qf hp
  rw[if_neg e,if_neg e,List.getD_eq_getElem?_getD,h2]
  exact⟨rfl,rfl,rfl,rfl⟩
def sk(Y:List TDeal)(y:Int)(c:TDeal)(n p q:Int):Prop:=skp (E Y y c n p) (E Y y c n q)
theorem qlU{n p q:Int}{cp cq:TDeal}(hy:idx Y y=some c)(hp:idx Y p=some cp)(hq:idx Y q=some cq)(hne:p≠q)(hl:cp.Ops.length≤2513169434000) :
  ∃x,qkh p q (if p=y then n else cp.at_) (if q=y then n else cq.at_) Y=some x∧(x=true↔sk Y y c n p q):=by
 obtain⟨x,e,g⟩:=qiA hp hq hne hl (if p=y then n else cp.at_) (if q=y then n else cq.at_)
 obtain⟨a1,a2,a3,a4⟩:=qn8 (n:=n) hy hp
 obtain⟨b1,b2,b3,b4⟩:=qn8 (n:=n) hy hq
 refine⟨x,e,?_⟩
 rw[g,sk,skp,a1,a2,a4,b1,b4]
 simp only[wr,b3]
theorem qgX{A:List Int}{i:Nat}{z:Int}{cx cz:TDeal}{g2:Bool→Bool→Int→Option Bool}{gx3:Int}{go1:Int→Option Bool}(hlg:S.logs_.length=2)(hn0:0≤S.now_)(hn:S.now_≤2513169434000)(hy:idx Y y=some c)(hi:i<A.length)(hx:idx Y A[i]=some cx)(hz:idx Y z=some cz)(hne:A[i]≠z)(l1:cx.Ops.length≤2513169434000)(l2:cz.Ops.length≤2513169434000) :
  ∃b1 b2,(b1=true↔sk Y y c (S.now_+1) A[i] z)∧(b2=true↔sk Y y c (S.now_+1) z A[i])∧∀p q,qaP g2 A Y z y (rs S v dl) gx3 go1 p q (i:Int)=qb (i64 ((i:Int)+1)) fun j=>g2 (p||b1) (q||b2) j:=by
 obtain⟨b1,e1,g1⟩:=qlU (n:=S.now_+1) hy hx hz hne l1
 obtain⟨b2,e2,g2⟩:=qlU (n:=S.now_+1) hy hz hx hne.symm l2
 refine⟨b1,b2,g1,g2,fun p q=>?_⟩
 have ei:i64 (S.now_+1)=some (S.now_+1):=qk (by omega) (by omega)
 rw[qaP,if_pos (by omega),qp hi,qa,hx,qa,hz,qa,if_pos hne]
 simp only[qga,qf9,qhM,qhL,qf8,qc6,qc5,qc4,qc3,hx,hy,hz,qa,show(rs S v dl).now_=S.now_ from rfl,qh (show(rs S v dl).logs_.length=2 from hlg),ei]
 by_cases c1:A[i]=y<;>by_cases c2:z=y
 ·exact absurd (c1.trans c2.symm) hne
 all_goals simp only[c1,c2,if_true,if_false]at e1 e2 ⊢<;>cases p<;>cases q<;>simp only[e1,e2,qa,if_true,if_neg ff,if_false]<;>cases b1<;>cases b2<;>simp[e1,e2]
theorem qkU{A:List Int}{z gx3:Int}{go1:Int→Option Bool}(hlg:S.logs_.length=2)(hn0:0≤S.now_)(hnw:S.now_≤2513169434000)(hy:idx Y y=some c)(hA:∀x∈A,∃cx,idx Y x=some cx∧cx.Ops.length≤2513169434000)(hl:A.length≤2513169434001)(hz:z∈A):∀(r i:Nat),i+r=A.length→∀n,r<n→∀p q,∃p' q',
  qaq A Y z y (rs S v dl) gx3 go1 n p q (i:Int)=qhN gx3 go1 p' q'∧(p'=true↔p=true∨∃x∈A.drop i,x≠z∧sk Y y c (S.now_+1) x z)∧(q'=true↔q=true∨∃x∈A.drop i,x≠z∧sk Y y c (S.now_+1) z x):=by
 intro r
 induction r with
 | zero =>
  intro i hi n hn p q
  obtain⟨n,rfl⟩:=Nat.exists_eq_add_one.2 hn
  rw[qaq,qaP,if_neg (by omega),List.drop_eq_nil_of_le (by omega)]
  exact⟨p,q,rfl,by simp,by simp⟩
 | succ r ih =>
  intro i hi n hn p q
  obtain⟨n,rfl⟩:=Nat.exists_eq_add_one.2 (show 0<n by omega)
  have h5:i<A.length:=by omega
  obtain⟨cx,hx,l1⟩:=hA A[i] (List.getElem_mem h5)
  obtain⟨cz,hz',l2⟩:=hA z hz
  have ih':=ih (i+1) (by omega) n (by omega)
  rw[qaq,kh h5]
  by_cases e:A[i]=z
  ·obtain⟨p',q',e1,e2,e3⟩:=ih' p q
   refine⟨p',q',?_,?_,?_⟩
   ·rw[qaP,if_pos (by omega),qp h5,qa,hx,qa,hz',qa,if_neg (by simp[e]),qD i (by omega),qa,e1]
   ·rw[e2];refine or_congr Iff.rfl ⟨fun⟨x,h1,h2⟩=>⟨x,.tail _ h1,h2⟩,fun⟨x,h1,h2,h3⟩=>⟨x,(List.mem_cons.1 h1).resolve_left fun e'=>h2 (e'.trans e),h2,h3⟩⟩
   ·rw[e3];refine or_congr Iff.rfl ⟨fun⟨x,h1,h2⟩=>⟨x,.tail _ h1,h2⟩,fun⟨x,h1,h2,h3⟩=>⟨x,(List.mem_cons.1 h1).resolve_left fun e'=>h2 (e'.trans e),h2,h3⟩⟩
  ·obtain⟨b1,b2,g1,g2,g3⟩:=qgX (dl:=dl) (v:=v) (A:=A) (g2:=qaq A Y z y (rs S v dl) gx3 go1 n) (gx3:=gx3) (go1:=go1) hlg hn0 hnw hy h5 hx hz' e l1 l2
   obtain⟨p',q',e1,e2,e3⟩:=ih' (p||b1) (q||b2)
   refine⟨p',q',by rw[g3,qD i (by omega),qa,e1],?_,?_⟩
   ·rw[e2,Bool.or_eq_true,g1,or_assoc]
    refine or_congr Iff.rfl ⟨fun h=>h.elim (fun h=>⟨_,.head _,e,h⟩) fun⟨x,h1,h2⟩=>⟨x,.tail _ h1,h2⟩,fun⟨x,h1,h2,h3⟩=>(List.mem_cons.1 h1).imp (fun(e':x=A[i])=>e'▸h3) fun h1=>⟨x,h1,h2,h3⟩⟩
   ·rw[e3,Bool.or_eq_true,g2,or_assoc]
    refine or_congr Iff.rfl ⟨fun h=>h.elim (fun h=>⟨_,.head _,e,h⟩) fun⟨x,h1,h2⟩=>⟨x,.tail _ h1,h2⟩,fun⟨x,h1,h2,h3⟩=>(List.mem_cons.1 h1).imp (fun(e':x=A[i])=>e'▸h3) fun h1=>⟨x,h1,h2,h3⟩⟩
def qnM(Y:List TDeal)(y:Int)(c:TDeal)(n:Int)(A:List Int)(z:Int):Prop:=(∃x∈A,x≠z∧sk Y y c n x z)∧∃x∈A,x≠z∧sk Y y c n z x
theorem qi9{A:List Int}(hlg:S.logs_.length=2)(hn0:0≤S.now_)(hnw:S.now_≤2513169434000)(hy:idx Y y=some c)(hA:∀x∈A,∃cx,idx Y x=some cx∧cx.Ops.length≤2513169434000)(hl:A.length≤2513169434001):∀(r i:Nat),i+r=A.length→∀n,r<n →
  ∃b,qar A Y y (rs S v dl) n (i:Int)=some b∧(b=true↔∃z∈A.drop i,qnM Y y c (S.now_+1) A z):=by
 intro r
 induction r with
 | zero =>
  intro i hi n hn
  obtain⟨n,rfl⟩:=Nat.exists_eq_add_one.2 hn
  rw[qar,qeW,if_neg (by omega),List.drop_eq_nil_of_le (by omega)]
  exact⟨false,rfl,by simp⟩
 | succ r ih =>
  intro i hi n hn
  obtain⟨n,rfl⟩:=Nat.exists_eq_add_one.2 (show 0<n by omega)
  have h5:i<A.length:=by omega
  obtain⟨b,e,g⟩:=ih (i+1) (by omega) n (by omega)
  obtain⟨p,q,e1,e2,e3⟩:=qkU (v:=v) (dl:=dl) (gx3:=(i:Int)) (go1:=qar A Y y (rs S v dl) n) hlg hn0 hnw hy hA hl (List.getElem_mem h5) A.length 0 (by omega) big (by rw[qv];omega) false false
  rw[qar,qeW,if_pos (by omega),qp h5,qa,kh h5]
  rw[show((0:Nat):Int)=0 from rfl]at e1
  rw[e1,qhN,qhO,qD i (by omega),qa,e]
  rw[List.drop_zero]at e2 e3
  have hbad:(p=true∧q=true)↔qnM Y y c (S.now_+1) A A[i]:=by rw[e2,e3];simp only[reduceCtorEq,false_or];exact Iff.rfl
  by_cases cc:p=true∧q=true
  ·rw[if_pos cc.1,if_pos cc.2]
   exact⟨true,rfl,fun _=>⟨_,.head _,hbad.1 cc⟩,fun _=>rfl⟩
  ·refine⟨b,?_,g.trans ⟨fun⟨x,h1,h2⟩=>⟨x,.tail _ h1,h2⟩,fun⟨x,h1,h2⟩=>⟨x,(List.mem_cons.1 h1).resolve_left fun e'=>cc (hbad.2 (e'▸h2)),h2⟩⟩⟩
   cases p
   ·rw[if_neg ff]
   ·cases q
    ·rw[if_pos rfl,if_neg ff]
    ·exact absurd ⟨rfl,rfl⟩ cc
theorem qhu{x:Int}{d:TDeal}{w:Int}{g3:List Int→Int→Option Bool}{l74:List Int}{r:Bool}(hK:wH w g3 l74=some r)(hy:idx Y y=some c)(hne:y≠x):∀n (l:List (Int×List UInt8)),l.length<n →
  qc2 w g3 l74 Y y x d n l=some ((l.any fun p=>wr c p.1&&decide (c.from_<d.at_))||r):=by
 intro n
 induction n with
 | zero=>intro l h;omega
 | succ n ih =>
  intro l h
  rw[qc2,qhK]
  cases hl:l with
  | nil=>rw[qnn,qkL,hK];rfl
  | cons p0 l0 =>
   rw[←hl]
   refine ql2 (by rw[hl];simp) fun j p hp=>?_
   have hj:=(List.getElem?_eq_some_iff.1 hp).1
   have hm:=List.mem_of_getElem? hp
   simp only[]
   rw[hy,qa,zf hne,qa,ih _ (by rw[List.length_eraseIdx];split<;>omega),show vp (moL c.texts_) p.1=wr c p.1 from rfl]
   have hall:(wr c p.1&&decide (c.from_<d.at_))=false→((l.eraseIdx j).any fun p=>wr c p.1&&decide (c.from_<d.at_))=l.any fun p=>wr c p.1&&decide (c.from_<d.at_):=fun hf=>by
    rw[Bool.eq_iff_iff,List.any_eq_true,List.any_eq_true]
    refine⟨fun⟨q,h1,h2⟩=>⟨q,List.mem_of_mem_eraseIdx h1,h2⟩,fun⟨q,h1,h2⟩=>⟨q,?_,h2⟩⟩
    obtain⟨i,hi,rfl⟩:=List.getElem_of_mem h1
    refine List.mem_eraseIdx_iff_getElem.2 ⟨i,hi,fun e=>?_,rfl⟩
    subst e
    rw[List.getElem?_eq_getElem hi,Option.some.injEq]at hp
    rw[←hp,h2]at hf;cases hf
   have hany:(wr c p.1&&decide (c.from_<d.at_))=true→(l.any fun p=>wr c p.1&&decide (c.from_<d.at_))=true:=fun h=>List.any_eq_true.2 ⟨p,hm,h⟩
   by_cases c1:wr c p.1=true
   ·rw[if_pos c1]
    by_cases c2:c.from_<d.at_
    ·rw[if_pos c2,hany (by simp[c1,c2])];rfl
    ·rw[if_neg c2,hall (by simp[c2])]
   ·rw[if_neg c1,hall (by simp[c1])]
def cmt(Y:List TDeal)(p:Int):Bool:=decide ((Y.getD p.toNat default).at_≠0)
theorem qeL{p:Int}{d:TDeal}(h:idx Y p=some d):cmt Y p=decide (d.at_≠0):=by
 obtain⟨_,_,h2⟩:=qf h
 rw[cmt,List.getD_eq_getElem?_getD,h2];rfl
def WW(c d:TDeal):Prop:=c.from_<d.at_∧∃k,wr c k=true∧wr d k=true
theorem qhE(hlg:S.logs_.length=2)(hn0:0≤S.now_)(hnw:S.now_≤2513169434000)(h:Dls Y dl B)(hy:idx Y y=some c)(h0:c.at_=0):∀(r i:Nat),i+r=dl.length→∀n,r<n→∀A:List Int,A.length≤i+1→(∀x∈A,∃cx,idx Y x=some cx∧cx.Ops.length≤2513169434000) →
  ∃b,qap (rs S v dl) Y y n A (i:Int)=some b∧(b=true↔(∃z∈dl.drop i,∃d,idx Y z=some d∧d.at_≠0∧WW c d)∨∃z∈A++(dl.drop i).filter (cmt Y),qnM Y y c (S.now_+1) (A++(dl.drop i).filter (cmt Y)) z):=by
 have hb:=h.b
 have hl:=h.l
 intro r
 induction r with
 | zero =>
  intro i hi n hn' A hA1 hA
  obtain⟨n,rfl⟩:=Nat.exists_eq_add_one.2 hn'
  rw[qap,qeV,if_neg (by simp only[rs];omega),qjo,List.drop_eq_nil_of_le (by omega)]
  obtain⟨b,e,g⟩:=qi9 (v:=v) (dl:=dl) hlg hn0 hnw hy hA (by omega) A.length 0 (by omega) big (by rw[qv];omega)
  exact⟨b,e,by rw[g];simp⟩
 | succ r ih =>
  intro i hi n hn' A hA1 hA
  obtain⟨n,rfl⟩:=Nat.exists_eq_add_one.2 (show 0<n by omega)
  have h5:i<dl.length:=by omega
  obtain⟨d,hd,ho,hm,ht⟩:=h.d dl[i] (List.getElem_mem h5)
  rw[qap,qeV,if_pos (by simp only[rs];omega),show(rs S v dl).deals_=dl from rfl,qp h5,qa,hd,qa,kh h5]
  by_cases c0:d.at_=0
  ·obtain⟨b,e,g⟩:=ih (i+1) (by omega) n (by omega) A (by omega) hA
   refine⟨b,by rw[if_pos c0,wH,qD i (by omega),qa,e],?_⟩
   rw[g,List.filter_cons_of_neg (by rw[qeL hd];simp[c0])]
   exact or_congr ⟨fun⟨z,h1,h2⟩=>⟨z,.tail _ h1,h2⟩,fun⟨z,h1,e,h2,h3,h4⟩=>⟨z,(List.mem_cons.1 h1).resolve_left fun e'=>by subst e';cases qB hd h2;exact h3 c0,e,h2,h3,h4⟩⟩ Iff.rfl
  ·obtain⟨m,hm'⟩:=ht c0
   obtain⟨b,e,g⟩:=ih (i+1) (by omega) n (by omega) (A++[dl[i]]) (by simp;omega) (fun x hx=>by
    rcases List.mem_append.1 hx with hx|hx
    ·exact hA x hx
    ·rw[List.mem_singleton.1 hx];exact⟨d,hd,by omega⟩)
   have hK:wH (i:Int) (qap (rs S v dl) Y y n) (A++[dl[i]])=some b:=by
    rw[wH,qD i (by omega),qa,e]
   have hyd:y≠dl[i]:=fun e'=>c0 (by rw[←e']at hd;cases qB hy hd;exact h0)
   rw[hm']at hm
   refine⟨_,by rw[if_neg c0,qE (by simp;omega),qa,hm',qa,qhu hK hy hyd big m (by rw[qv];simp only[moL,Option.getD_some]at hm;omega)],?_⟩
   have ew:(m.any fun p=>wr c p.1&&decide (c.from_<d.at_))=true↔WW c d:=by
    rw[List.any_eq_true]
    constructor
    ·rintro⟨p,h1,h2⟩
     rw[Bool.and_eq_true,decide_eq_true_eq]at h2
     exact⟨h2.2,p.1,h2.1,by unfold wr;rw[hm'];exact qQ.2 ⟨p,h1,rfl⟩⟩
    ·rintro⟨h1,k,h2,h3⟩
     unfold wr at h3
     rw[hm']at h3
     obtain⟨p,h4,rfl⟩:=qQ.1 h3
     exact⟨p,h4,by rw[Bool.and_eq_true,decide_eq_true_eq];exact⟨h2,h1⟩⟩
   rw[Bool.or_eq_true,ew,g,List.filter_cons_of_pos (by rw[qeL hd];simp[c0]),List.append_assoc,List.singleton_append,←or_assoc]
   refine or_congr ⟨fun hh=>hh.elim (fun h1=>⟨_,.head _,d,hd,c0,h1⟩) fun⟨z,h1,h2⟩=>⟨z,.tail _ h1,h2⟩,fun⟨z,h1,e,h2,h3,h4⟩=>?_⟩ Iff.rfl
   rcases List.mem_cons.1 h1 with rfl|h1
   ·cases qB hd h2;exact .inl h4
   ·exact .inr ⟨z,h1,e,h2,h3,h4⟩
theorem qha(hu:idx U u=some (rs S v dl))(hv:v.length=20)(hlg:S.logs_.length=2)(hn0:0≤S.now_)(hn:S.now_≤2513169434000)(h:Dls Y dl B)(hd:y∈dl)(hy:idx Y y=some c)(h0:c.at_=0):∃b,M69 u y U Y=some b∧(b=true↔qeP (Cm Y dl) y c (S.now_+1)):=by
 have hyl:∀x∈[y],∃cx,idx Y x=some cx∧cx.Ops.length≤2513169434000:=fun x hx=>by
  rw[List.mem_singleton.1 hx]
  obtain⟨d,h1,h2,_⟩:=h.d y hd
  exact⟨d,h1,by have:=h.b;omega⟩
 obtain⟨b,e,g⟩:=qhE (v:=v) hlg hn0 hn h hy h0 dl.length 0 (by omega) big (by have:=h.l;have:=h.b;rw[qv];omega) [y] (by simp) hyl
 refine⟨b,?_,g.trans (or_congr ?_ ?_)⟩
 ·rw[M69,hu,qa,qh (show(rs S v dl).logs_.length=2 from hlg),qa,qh (show(rs S v dl).first_.length=20 from hv),qa]
  exact e
 ·rw[List.drop_zero]
  exact⟨fun⟨z,h1,d,h2,h3,h4⟩=>⟨z,d,⟨h1,h2,h3⟩,h4⟩,fun⟨z,d,⟨h1,h2,h3⟩,h4⟩=>⟨z,h1,d,h2,h3,h4⟩⟩
 ·have hC:∀z d,Cp (Cm Y dl) y c (S.now_+1) z d↔z∈[y]++(dl.drop 0).filter (cmt Y)∧d=E Y y c (S.now_+1) z:=fun z d=>by
   rw[List.drop_zero,List.singleton_append,List.mem_cons,List.mem_filter]
   constructor
   ·rintro(⟨h1,h2,h3⟩|⟨rfl,rfl⟩)
    ·have hne:z≠y:=fun e=>h3 (by rw[e]at h2;cases qB hy h2;exact h0)
     refine⟨.inr ⟨h1,by rw[qeL h2];simpa using h3⟩,?_⟩
     rw[E,if_neg hne,List.getD_eq_getElem?_getD,(qf h2).2.2];rfl
    ·exact⟨.inl rfl,by rw[E,if_pos rfl]⟩
   ·rintro⟨rfl|⟨h1,h2⟩,rfl⟩
    ·exact .inr ⟨rfl,by rw[E,if_pos rfl]⟩
    ·obtain⟨d,hd,_⟩:=h.d z h1
     rw[qeL hd,decide_eq_true_eq]at h2
     have hne:z≠y:=fun e=>h2 (by rw[e]at hd;cases qB hy hd;exact h0)
     rw[E,if_neg hne,List.getD_eq_getElem?_getD,(qf hd).2.2]
     exact .inl ⟨h1,hd,h2⟩
  constructor
  ·rintro⟨z,h1,⟨x,h2,h3,h4⟩,x',h5,h6,h7⟩
   exact⟨z,_,(hC _ _).2 ⟨h1,rfl⟩,⟨x,_,(hC _ _).2 ⟨h2,rfl⟩,h3,h4⟩,⟨x',_,(hC _ _).2 ⟨h5,rfl⟩,h6,h7⟩⟩
  ·rintro⟨z,d,h1,⟨x,d1,h2,h3,h4⟩,x',d2,h5,h6,h7⟩
   obtain⟨k1,rfl⟩:=(hC _ _).1 h1
   obtain⟨k2,rfl⟩:=(hC _ _).1 h2
   obtain⟨k5,rfl⟩:=(hC _ _).1 h5
   exact⟨z,k1,⟨x,k2,h3,h4⟩,x',k5,h6,h7⟩
end
end Go.Proofs.YtloiiohoelhldaaGreatDoor
end
section
namespace Go.Proofs.YtloiiohoelhldaaGreatDoor
open Go.S
structure Nx(N B:Nat)(d:TDisk)(T:List TStore)(U:List TStore81)(G:List TLog)(X:List Ttx)(Y:List TDeal)(s u:Int)(S:TStore)(v:SS)(dl:List Int):Prop where
 hs:idx T s=some S
 hu:idx U u=some (rs S v dl)
 ok:StOk S X
 sm:Sm S
 v20:V20 v
 dls:Dls Y dl B
 sim:Sim S X v (Cm Y dl) (Lv Y dl)
 now:S.now_≤B
 dk:Dk N d 3000
 lg:S.down_=false→Half N G S.logs_∧d.late_.length≤300
 hf:S.half_=0∨S.half_=1
 pT:∀x∈T,TStore.ok130 X.length x∧TStore.ok108 G.length x
 pU:∀x∈U,TStore81.ok149 Y.length x∧TStore81.ok122 G.length x
theorem qg8{α:Type}(l:List (Int×α))(a k:Int)(x:α):vp (wM l a x) k=true↔vp l k=true∨k=a:=by
 unfold wM
 by_cases c:vp l a=true
 ·rw[if_pos c,qQ,qQ]
  constructor
  ·rintro⟨p,hp,rfl⟩
   obtain⟨q,hq,rfl⟩:=List.mem_map.1 hp
   by_cases e:q.1=a
   ·rw[if_pos e];exact .inr rfl
   ·rw[if_neg e];exact .inl ⟨q,hq,rfl⟩
  ·intro h
   have:∃q∈l,q.1=k:=h.elim id fun e=>by rw[e];exact qQ.1 c
   obtain⟨q,hq,rfl⟩:=this
   refine⟨_,List.mem_map.2 ⟨q,hq,rfl⟩,?_⟩
   split
   ·rename_i e;exact e.symm
   ·rfl
 ·rw[if_neg c,qQ,qQ]
  constructor
  ·rintro⟨p,hp,rfl⟩
   rcases List.mem_append.1 hp with hp|hp
   ·exact .inl ⟨p,hp,rfl⟩
   ·rw[List.mem_singleton.1 hp];exact .inr rfl
  ·rintro(⟨p,hp,rfl⟩|rfl)
   ·exact⟨p,List.mem_append_left _ hp,rfl⟩
   ·exact⟨_,List.mem_append_right _ (List.mem_singleton.2 rfl),rfl⟩
theorem qiP{α:Type}(l:List (Int×α))(a:Int)(x:α):(wM l a x).length≤l.length+1:=by
 unfold wM;split<;>simp
section
variable{N B:Nat}{d:TDisk}{T:List TStore}{U:List TStore81}{G:List TLog}{X:List Ttx}{Y:List TDeal}{s u:Int}{S:TStore}{v:SS}{dl:List Int}
theorem Nx.next(h:Nx N B d T U G X Y s u S v dl){B':Nat}{d':TDisk}{G':List TLog}{X':List Ttx}{Y':List TDeal}{S':TStore}{dl':List Int}(hX:X.length≤X'.length)(hY:Y.length≤Y'.length)(hG:G.length≤G'.length)(ok:StOk S' X')(sm:Sm S')(dls:Dls Y' dl' B')(sim:Sim S' X' v (Cm Y' dl') (Lv Y' dl'))(now:S'.now_≤B')(dk:Dk N d' 3000)
  (lg:S'.down_=false→Half N G' S'.logs_∧d'.late_.length≤300) (hf:S'.half_=0∨S'.half_=1) (hl:S'.logs_=S.logs_):Nx N B' d' (T.set s.toNat S') (U.set u.toNat (rs S' v dl')) G' X' Y' s u S' v dl':=by
 have pl:∀k∈S'.logs_,k<(G'.length:Int):=fun k hk=>by
  have:=(h.pT S (qbi h.hs)).2 k (hl▸hk);omega
 refine⟨qG h.hs,qG h.hu,ok,sm,h.v20,dls,sim,now,dk,lg,hf,fun x hx=>?_,fun x hx=>?_⟩
 ·rcases List.mem_or_eq_of_mem_set hx with hx|rfl
  ·obtain⟨⟨h1,h2⟩,h3⟩:=h.pT x hx
   exact⟨⟨fun k hk=>by have:=h1 k hk;omega,fun k hk=>by have:=h2 k hk;omega⟩,fun k hk=>by have:=h3 k hk;omega⟩
  ·exact⟨⟨ok.ac.lt,ok.ov.lt⟩,pl⟩
 ·rcases List.mem_or_eq_of_mem_set hx with hx|rfl
  ·obtain⟨h1,h3⟩:=h.pU x hx
   exact⟨fun k hk=>by have:=h1 k hk;omega,fun k hk=>by have:=h3 k hk;omega⟩
  ·exact⟨fun k hk=>by obtain⟨c,hc,_⟩:=dls.d k hk;exact(qf hc).2.1,pl⟩
theorem Dls.mono{B':Nat}(h:Dls Y dl B)(hb:B≤B')(hb':B'≤2513169434000):Dls Y dl B':=⟨fun y hy=>by
 obtain⟨c,h1,h2,h3,h4⟩:=h.d y hy
 exact⟨c,h1,by omega,by omega,h4⟩,h.n,by have:=h.l;omega,hb'⟩
theorem Dls.set(h:Dls Y dl B)(hb:B+1≤2513169434000){y:Int}{c e:TDeal}(hc:idx Y y=some c)(h1:e.Ops.length≤B+1)(h2:(moL e.texts_).length≤B+1)(h3:e.at_≠0→∃m,e.texts_=some m):Dls (Y.set y.toNat e) dl (B+1):=⟨fun z hz=>by
 by_cases q:z=y
 ·subst q;exact⟨e,qG hc,h1,h2,h3⟩
 ·obtain⟨f,k1,k2,k3,k4⟩:=h.d z hz
  exact⟨f,kw k1 (qf hc).1 fun e=>q e.symm,by omega,by omega,k4⟩,h.n,by have:=h.l;omega,hb⟩
theorem xl{y z:Int}{c e f:TDeal}(hc:idx Y y=some c):idx (Y.set y.toNat e) z=some f↔(z≠y∧idx Y z=some f)∨(z=y∧f=e):=by
 by_cases q:z=y
 ·subst q
  rw[qG hc]
  exact⟨fun h=>.inr ⟨rfl,(Option.some.inj h).symm⟩,fun h=>h.elim (fun h=>absurd rfl h.1) fun h=>by rw[h.2]⟩
 ·constructor
  ·intro h
   obtain⟨w,hw⟩:=qey (l:=Y) (qf h).1 (by have:=(qf h).2.1;simpa using this)
   cases qB (kw hw (qf hc).1 fun e=>q e.symm) h
   exact .inl ⟨q,hw⟩
  ·rintro(⟨_,h⟩|⟨h,_⟩)
   ·exact kw h (qf hc).1 fun e=>q e.symm
   ·exact absurd h q
theorem qmF{y:Int}{c e:TDeal}(hc:Lv Y dl y c)(ho:e.over_=false):Lv (Y.set y.toNat e) dl=Wi (Lv Y dl) y e:=by
 funext z f
 refine propext ⟨fun⟨h1,h2,h3⟩=>?_,?_⟩
 ·rcases(xl hc.2.1).1 h2 with⟨g1,g2⟩|⟨g1,g2⟩
  ·exact .inl ⟨g1,h1,g2,h3⟩
  ·exact .inr ⟨g1,g2⟩
 ·rintro(⟨g1,h1,g2,h3⟩|⟨rfl,rfl⟩)
  ·exact⟨h1,(xl hc.2.1).2 (.inl ⟨g1,g2⟩),h3⟩
  ·exact⟨hc.1,(xl hc.2.1).2 (.inr ⟨rfl,rfl⟩),ho⟩
theorem qkj{y:Int}{c e:TDeal}(hc:Lv Y dl y c)(ho:e.over_=true):Lv (Y.set y.toNat e) dl=Wo (Lv Y dl) y:=by
 funext z f
 refine propext ⟨fun⟨h1,h2,h3⟩=>?_,?_⟩
 ·rcases(xl hc.2.1).1 h2 with⟨g1,g2⟩|⟨g1,g2⟩
  ·exact⟨g1,h1,g2,h3⟩
  ·rw[g2,ho]at h3;cases h3
 ·rintro⟨g1,h1,g2,h3⟩
  exact⟨h1,(xl hc.2.1).2 (.inl ⟨g1,g2⟩),h3⟩
theorem qil{y:Int}{c e:TDeal}(hc:idx Y y=some c)(h0:c.at_=0)(he:e.at_=0):Cm (Y.set y.toNat e) dl=Cm Y dl:=by
 funext z f
 refine propext ⟨fun⟨h1,h2,h3⟩=>?_,fun⟨h1,h2,h3⟩=>⟨h1,(xl hc).2 (.inl ⟨fun q=>?_,h2⟩),h3⟩⟩
 ·rcases(xl hc).1 h2 with⟨g1,g2⟩|⟨g1,g2⟩
  ·exact⟨h1,g2,h3⟩
  ·rw[g2]at h3;exact absurd he h3
 ·rw[q]at h2;cases qB hc h2;exact h3 h0
theorem qmI{y:Int}{c:TDeal}{n:Int}(hc:Lv Y dl y c)(h0:c.at_=0)(hn:n≠0):Cm (Y.set y.toNat (cAt c n)) dl=Cp (Cm Y dl) y c n:=by
 funext z f
 refine propext ⟨fun⟨h1,h2,h3⟩=>?_,?_⟩
 ·rcases(xl hc.2.1).1 h2 with⟨g1,g2⟩|⟨g1,g2⟩
  ·exact .inl ⟨h1,g2,h3⟩
  ·exact .inr ⟨g1,g2⟩
 ·rintro(⟨h1,h2,h3⟩|⟨rfl,rfl⟩)
  ·exact⟨h1,(xl hc.2.1).2 (.inl ⟨fun q=>by rw[q]at h2;cases qB hc.2.1 h2;exact h3 h0,h2⟩),h3⟩
  ·exact⟨hc.1,(xl hc.2.1).2 (.inr ⟨rfl,rfl⟩),hn⟩
abbrev PR5:=Option (List TDisk×List TStore×List TLog×List Ttx×TTold)
abbrev RR5:=Option (List TDisk51×List TStore81×List TLog122×List TDeal×TTold)
def qoJ(N B:Nat)(s u:Int)(p:PR5)(r:RR5):Prop:=∃d T U G X Y S v dl o,p=some ([d],T,G,X,o)∧r=some ([rd d],U,G.map rl,Y,o)∧Nx N B d T U G X Y s u S v dl
theorem Nx.up(h:Nx N B d T U G X Y s u S v dl)(hb:B+1≤2513169434000):Nx N (B+1) d T U G X Y s u S v dl:=⟨h.hs,h.hu,h.ok,h.sm,h.v20,h.dls.mono (by omega) hb,h.sim,by have:=h.now;omega,h.dk,h.lg,h.hf,h.pT,h.pU⟩
theorem Nx.change(h:Nx N B d T U G X Y s u S v dl)(hb:B+1≤2513169434000){a y:Int}{t t':Ttx}{c e:TDeal}(ha:a∈S.active_)(ht:idx X a=some t)(hL:Lv Y dl y c)(hd:TD t c)(hk:Kin t t')(hu:TD t' e)(ho:e.over_=false)(h1:e.Ops.length≤B+1)(h2:(moL e.texts_).length≤B+1):Nx N (B+1) d T U G (X.set a.toNat t') (Y.set y.toNat e) s u S v dl:=by
 have hm:=h.sim.change h.ok ha ht hL hd hk hu ho
 have c0:=(h.sim.a4 y c hL).1
 have e0:e.at_=0:=by rw[←hu.a,hk.a,hd.a,c0]
 have:=h.next (B':=B+1) (d':=d) (G':=G) (X':=X.set a.toNat t') (Y':=Y.set y.toNat e) (S':=S) (dl':=dl) (by simp) (by simp) (Nat.le_refl _) (h.ok.stay (.set ht hk.i hk.ok)) h.sm (h.dls.set hb hL.2.1 h1 h2 fun q=>absurd e0 q) (by rw[qmF hL ho,qil hL.2.1 c0 e0];exact hm) (by have:=h.now;omega) h.dk h.lg h.hf rfl
 rwa [vg h.hs,vg h.hu]at this
theorem Nx.begun(h:Nx N B d T U G X Y s u S v dl)(hb:B+1≤2513169434000)(id:Int):∃T' U' X' Y' S' dl' e,M24 s id T X=some (T',X',e)∧M30 u id U Y=some (U',Y',e)∧Nx N (B+1) d T' U' G X' Y' s u S' v dl':=by
 obtain⟨k,k',e,e',g⟩:=qnT h.hs h.ok h.hu h.v20.1 h.dls h.sim id
 have hdw:(rs S v dl).down_=S.down_:=rfl
 have stay:∀q,M24 s id T X=some (T,X,q)→M68 u id 0 true U Y=some (-1,q)→q≠0→∃T' U' X' Y' S' dl' e,M24 s id T X=some (T',X',e)∧M30 u id U Y=some (U',Y',e)∧Nx N (B+1) d T' U' G X' Y' s u S' v dl':=fun q h1 h2 h3 =>
  ⟨T,U,X,Y,S,dl,q,h1,by rw[M30,h.hu,qa,h2,qe,qa,if_neg h3],h.up hb⟩
 have hr:M68 u id 0 true U Y=if S.down_=true then some (-1,13) else if id<0∨11<id then some (-1,1) else if 0≤k' then some (-1,7) else some (k',0):=by
  rw[M68,h.hu,qa,e',qa,qa,qh (show(rs S v dl).logs_.length=2 from h.ok.lg),qa,hdw]
  simp only[qd3,qd2,qd1,qd0,if_neg ff,if_true,ite_self]
  by_cases c1:id<0<;>by_cases c2:11<id<;>simp[c1,c2]
 cases hdn:S.down_ with
 | true =>
  refine stay 13 ?_ (by rw[hr,hdn,if_pos rfl]) (by simp)
  rw[M24,h.hs,qa,qh h.ok.lg,qa,if_pos hdn]
 | false =>
  rw[hdn,if_neg ff]at hr
  by_cases c1:id<0∨11<id
  ·refine stay 1 ?_ (by rw[hr,if_pos c1]) (by simp)
   rw[M24,h.hs,qa,qh h.ok.lg,qa,hdn,if_neg ff]
   by_cases c2:id<0
   ·rw[if_pos c2,qbS,if_pos rfl]
   ·rw[if_neg c2,if_pos (by omega),qbS,if_pos rfl]
  ·rw[if_neg c1]at hr
   rcases g with⟨g1,g2,_⟩|⟨rfl,rfl,g3⟩
   ·refine stay 7 ?_ (by rw[hr,if_pos g2]) (by simp)
    rw[M24,h.hs,qa,qh h.ok.lg,qa,hdn,if_neg ff,if_neg (by omega),if_neg (by omega),qbS,if_neg ff,e,qa,h.hs,qa,if_pos g1]
   ·rw[if_neg (by omega)]at hr
    obtain⟨q1,q2⟩:=qi8 h.hs h.ok (fun x hx=>(h.pT x hx).1) id hdn (by omega) (by omega) e g3
    have hl:=h.dls.l
    have hin:∀y∈dl,y<(Y.length:Int):=fun y hy=>by obtain⟨c,hc,_⟩:=h.dls.d y hy;exact(qf hc).2.1
    have hnew:idx (Y++[qdK id S.now_]) (Y.length:Int)=some (qdK id S.now_):=qZ _ _
    have hrel:∀z f,idx (Y++[qdK id S.now_]) z=some f↔idx Y z=some f∨(z=(Y.length:Int)∧f=qdK id S.now_):=fun z f=>by
     constructor
     ·intro hz
      by_cases q:z=(Y.length:Int)
      ·subst q;cases qB hnew hz;exact .inr ⟨rfl,rfl⟩
      ·exact .inl (qbj hz q)
     ·rintro(hz|⟨rfl,rfl⟩)
      ·exact xn hz
      ·exact hnew
    have hne:∀z f,idx Y z=some f→z≠(Y.length:Int):=fun z f hz q=>by have:=(qf hz).2.1;omega
    have hLv:Lv (Y++[qdK id S.now_]) (dl++[(Y.length:Int)])=Wn (Lv Y dl) Y.length (qdK id S.now_):=by
     funext z f
     refine propext ⟨fun⟨h1,h2,h3⟩=>?_,?_⟩
     ·rcases(hrel z f).1 h2 with h2|h2
      ·refine .inl ⟨?_,h2,h3⟩
       rcases List.mem_append.1 h1 with h1|h1
       ·exact h1
       ·exact absurd (List.mem_singleton.1 h1) (hne z f h2)
      ·exact .inr h2
     ·rintro(⟨h1,h2,h3⟩|⟨rfl,rfl⟩)
      ·exact⟨List.mem_append_left _ h1,(hrel z f).2 (.inl h2),h3⟩
      ·exact⟨List.mem_append_right _ (List.mem_singleton.2 rfl),hnew,rfl⟩
    have hCm:Cm (Y++[qdK id S.now_]) (dl++[(Y.length:Int)])=Cm Y dl:=by
     funext z f
     refine propext ⟨fun⟨h1,h2,h3⟩=>?_,fun⟨h1,h2,h3⟩=>⟨List.mem_append_left _ h1,(hrel z f).2 (.inl h2),h3⟩⟩
     rcases(hrel z f).1 h2 with h2|⟨_,rfl⟩
     ·rcases List.mem_append.1 h1 with h1|h1
      ·exact⟨h1,h2,h3⟩
      ·exact absurd (List.mem_singleton.1 h1) (hne z f h2)
     ·exact absurd rfl h3
    have hsim:=h.sim.begun h.ok (y:=(Y.length:Int)) g3 (fun f hf=>hne _ f hf.2.1 rfl) (fun f hf=>hne _ f hf.2.1 rfl)
    refine⟨_,_,_,_,_,_,0,q1,?_,h.next (S':=Go.Proofs.YtloiiohoelhldaaGreatDoor.begun S X.length) (X':=X++[xv id S.now_]) (Y':=Y++[qdK id S.now_]) (dl':=dl++[(Y.length:Int)]) (by simp) (by simp) (Nat.le_refl _) q2 h.sm ?_ (by rw[hLv,hCm];exact hsim) (by have:=h.now;simp only[Go.Proofs.YtloiiohoelhldaaGreatDoor.begun];omega) h.dk h.lg h.hf rfl⟩
    ·rw[M30,h.hu,qa,hr,qe,qa,if_pos rfl,qh (show(rs S v dl).logs_.length=2 from h.ok.lg),qa,qh (show(rs S v dl).first_.length=20 from h.v20.1),qa,zf ⟨fun x hx=>(h.pU x hx).1,hin⟩,qa,qal,qe,qE (by simp only[rs,List.length_singleton];omega),qa,qx h.hu]
     rfl
    ·refine⟨fun z hz=>?_,?_,by simp;omega,hb⟩
     ·rcases List.mem_append.1 hz with hz|hz
      ·obtain⟨c,k1,k2,k3,k4⟩:=h.dls.d z hz
       exact⟨c,xn k1,by omega,by omega,k4⟩
      ·rw[List.mem_singleton.1 hz]
       exact⟨_,hnew,by simp[qdK],by simp[qdK,moL],fun q=>absurd rfl q⟩
     ·rw[List.nodup_append]
      exact⟨h.dls.n,by simp,fun a ha b hb e=>by rw[List.mem_singleton.1 hb]at e;have:=hin a ha;omega⟩
end
end Go.Proofs.YtloiiohoelhldaaGreatDoor
end
section
namespace Go.Proofs.YtloiiohoelhldaaGreatDoor
open Go.S
section
variable{N B:Nat}{d:TDisk}{T:List TStore}{U:List TStore81}{G:List TLog}{X:List Ttx}{Y:List TDeal}{s u:Int}{S:TStore}{v:SS}{dl:List Int}
theorem Nx.pos(h:Nx N B d T U G X Y s u S v dl):∀y c,Cm Y dl y c→0<c.at_:=fun y c hc=>by have:=h.sim.c1 y c hc;omega
theorem Nx.read(h:Nx N B d T U G X Y s u S v dl)(hb:B+1≤2513169434000)(id item:Int):∃X' Y' x e,M25 s id item T X=some (X',x,e)∧M31 u id item U Y=some (Y',x,e)∧X'.length=X.length∧Y'.length=Y.length∧Nx N (B+1) d T U G X' Y' s u S v dl:=by
 rcases w7 h.hs h.ok h.hu h.v20.1 h.dls h.sim id item with⟨e,he,h1,h2⟩|⟨a,y,t,c,h1,h2,hdn,i0,i1,ha,ht,hL,hd⟩
 ·refine⟨X,Y,[],e,?_,?_,rfl,rfl,h.up hb⟩
  ·rw[M25,h.hs,qa,h1,qe,qa,if_pos he]
  ·rw[M31,h.hu,qa,h2,qe,qa,if_pos he]
 ·obtain⟨t',x,l,e1,hk,ew,ex,hl,hx⟩:=qkz h.hs h.ok h1 ha ht i0 i1
  obtain⟨c',hc',o1,o2,_⟩:=h.dls.d y hL.1
  cases qB hL.2.1 hc'
  have c0:=(h.sim.a4 y c hL).1
  have hR:M31 u id item U Y=if wr c item=true then some (Y,rtx c item,0) else qb (app c.Ops ([(⟨0,1,item⟩:TOp)])) fun l11=>qb (upd Y y (⟨c.id_,c.from_,c.at_,c.over_,l11,c.texts_⟩:TDeal)) fun l12=>qb (M37 u item c.from_ U l12) fun s14=>some (l12,s14,0):=by
   rw[M31,h.hu,qa,h2,qe,qa,if_neg (by simp),hL.2.1,qa];rfl
  rcases hx with⟨g1,rfl,g2⟩|⟨g1,g2,rfl⟩
  ·refine⟨_,Y,_,0,e1,by rw[hR,if_pos ((hd.w _).1 g1),hd.x _ g1],by simp,rfl,?_⟩
   have:=h.change hb ha ht hL hd (e:=c) hk ⟨hk.i.trans hd.i,hk.f.trans hd.f,hk.a.trans hd.a,fun k=>(g2 k).trans (hd.r k),by rw[ew];exact hd.w,by rw[ew];intro k hk;rw[←hd.x k hk];unfold zj;rw[ex],hd.n⟩ hL.2.2 (by omega) (by omega)
   rwa [vg hL.2.1]at this
  ·have hb2:=h.dls.b
   have hch:=h.change hb ha ht hL hd (e:=⟨c.id_,c.from_,c.at_,c.over_,c.Ops++[⟨0,1,item⟩],c.texts_⟩) hk ⟨hk.i.trans hd.i,hk.f.trans hd.f,hk.a.trans hd.a,fun k=>by
     rw[g2,hd.r]
     constructor
     ·rintro(⟨o,ho,rfl⟩|rfl)
      ·exact⟨o,List.mem_append_left _ ho,rfl⟩
      ·exact⟨_,List.mem_append_right _ (List.mem_singleton.2 rfl),rfl⟩
     ·rintro⟨o,ho,rfl⟩
      rcases List.mem_append.1 ho with ho|ho
      ·exact .inl ⟨o,ho,rfl⟩
      ·rw[List.mem_singleton.1 ho];exact .inr rfl,by rw[ew];exact hd.w,by rw[ew];intro k hk;show zj t' k=rtx c k;rw[←hd.x k hk];unfold zj;rw[ex],hd.n⟩ hL.2.2 (by simp;omega) (by exact Nat.le_succ_of_le o2)
   obtain⟨k,rfl⟩:=Int.eq_ofNat_of_zero_le i0
   obtain⟨x,e2,e3⟩:=qjK h.hu h.ok.lg h.v20.1 hch.dls hch.pos k (by omega) c.from_
   have h9:=h.sim.vl k (by omega) l (qf hl).2.2 t.from_ (.inr ⟨a,ha,t,ht,rfl⟩)
   have ecm:Cm (Y.set y.toNat ⟨c.id_,c.from_,c.at_,c.over_,c.Ops++[⟨0,1,(k:Int)⟩],c.texts_⟩) dl=Cm Y dl:=qil hL.2.1 c0 c0
   rw[ecm]at e3
   rw[hd.f]at h9
   have ev:=IsV.eq h.sim.c2 e3 h9
   refine⟨_,_,_,0,e1,?_,by simp,by simp,hch⟩
   rw[hR,if_neg (fun q=>g1 ((hd.w _).2 q)),qE (by simp;omega),qa,qx hL.2.1,qa,e2,qa,ev,hd.f]
theorem Nx.write(h:Nx N B d T U G X Y s u S v dl)(hb:B+1≤2513169434000)(id item:Int)(x:List UInt8):∃X' Y' e,M26 s id item x T X=some (X',e)∧M32 u id item x U Y=some (Y',e)∧X'.length=X.length∧Y'.length=Y.length∧Nx N (B+1) d T U G X' Y' s u S v dl:=by
 rcases w7 h.hs h.ok h.hu h.v20.1 h.dls h.sim id item with⟨e,he,h1,h2⟩|⟨a,y,t,c,h1,h2,hdn,i0,i1,ha,ht,hL,hd⟩
 ·refine⟨X,Y,e,?_,?_,rfl,rfl,h.up hb⟩
  ·rw[M26,h.hs,qa,h1,qe,qa,if_pos he]
  ·rw[M32,h.hu,qa,h2,qe,qa,if_pos he]
 ·by_cases cl:20<(x.length:Int)
  ·refine⟨X,Y,2,?_,?_,rfl,rfl,h.up hb⟩
   ·rw[M26,h.hs,qa,h1,qe,qa,if_neg (by simp),if_pos cl]
   ·rw[M32,h.hu,qa,h2,qe,qa,if_neg (by simp),if_pos cl]
  ·obtain⟨t',e1,hk,er,ew,ex⟩:=qiv h.hs h.ok h1 ha ht i0 i1 x cl
   obtain⟨c',hc',o1,o2,_⟩:=h.dls.d y hL.1
   cases qB hL.2.1 hc'
   obtain⟨m,hm⟩:=hd.n
   obtain⟨t0,ht0,htk⟩:=h.ok.ac a ha
   cases qB ht ht0
   rw[hm]at o2
   have hw:∀k,wr ⟨c.id_,c.from_,c.at_,c.over_,c.Ops,some (wM m item x)⟩ k=true↔wr c k=true∨k=item:=fun k=>by
    unfold wr;rw[hm];exact qg8 m item k x
   have hx:∀k,rtx ⟨c.id_,c.from_,c.at_,c.over_,c.Ops,some (wM m item x)⟩ k=if k=item then x else rtx c k:=fun k=>by
    unfold rtx;rw[hm];exact yp m item x k []
   refine⟨_,_,0,e1,?_,by simp,by simp,h.change hb ha ht hL hd (e:=⟨c.id_,c.from_,c.at_,c.over_,c.Ops,some (wM m item x)⟩) hk ⟨hk.i.trans hd.i,hk.f.trans hd.f,hk.a.trans hd.a,by rw[er];exact hd.r,fun k=>by rw[ew,hd.w,hw],fun k hk'=>?_,_,rfl⟩ hL.2.2 (by exact Nat.le_succ_of_le o1) ?_⟩
   ·rw[M32,h.hu,qa,h2,qe,qa,if_neg (by simp),if_neg cl,hL.2.1,qa,hm,qa,qx hL.2.1,qa]
   ·rw[hx]
    unfold zj
    rw[ex]
    by_cases q:k=item
    ·subst q
     rw[if_pos rfl,List.getD_eq_getElem?_getD,List.getElem?_set_self (by rw[htk.t20];omega)];rfl
    ·have hk2:=((ew k).1 hk').resolve_right q
     have h0:=htk.w.2.2 k hk2
     rw[if_neg q,←hd.x k hk2,zj,List.getD_eq_getElem?_getD,List.getD_eq_getElem?_getD,List.getElem?_set_ne (by omega)]
   ·have:=qiP m item x
    simp only[moL,Option.getD_some]at o2 ⊢;omega
theorem Nx.dropped(h:Nx N B d T U G X Y s u S v dl)(hb:B+1≤2513169434000){a y:Int}{t:Ttx}{c e:TDeal}(ha:a∈S.active_)(ht:idx X a=some t)(hL:Lv Y dl y c)(hd:TD t c)(ho:e.over_=true)(h0:e.at_=0)(h1:e.Ops=c.Ops)(h2:(moL e.texts_).length≤(moL c.texts_).length):∃S',M60 s a T X=some (T.set s.toNat S')∧Nx N (B+1) d (T.set s.toNat S') U G X (Y.set y.toNat e) s u S' v dl:=by
 obtain⟨b,f,g1,g2,g3,g4⟩:=qhz h.hs (h.ok.drop ha)
 obtain⟨q1,q2,_⟩:=h.ok.dropped (a:=a) (q:=fun x=>!(decide ((qfL X x).at_≤f))) g1 rfl
 obtain⟨c',hc',o1,o2,_⟩:=h.dls.d y hL.1
 cases qB hL.2.1 hc'
 have c0:=(h.sim.a4 y c hL).1
 have hs:=h.sim.drop h.ok ha ht hL hd g3
 have:=h.next (B':=B+1) (d':=d) (G':=G) (X':=X) (Y':=Y.set y.toNat e) (dl':=dl) (Nat.le_refl _) (by simp) (Nat.le_refl _) q1 q2 (h.dls.set hb hL.2.1 (by rw[h1];omega) (by omega) fun q=>absurd h0 q) (by rw[qkj hL ho,qil hL.2.1 c0 h0];exact hs) (by have:=h.now;show S.now_≤_;omega) h.dk h.lg h.hf rfl
 refine⟨_,g4,?_⟩
 rwa [show rs (Go.Proofs.YtloiiohoelhldaaGreatDoor.dropped S a b fun x=>!(decide ((qfL X x).at_≤f))) v dl=rs S v dl from rfl,vg h.hu]at this
theorem Nx.abort(h:Nx N B d T U G X Y s u S v dl)(hb:B+1≤2513169434000)(id:Int):∃T' Y' S' e,M28 s id T X=some (T',e)∧M34 u id U Y=some (Y',e)∧Y'.length=Y.length∧Nx N (B+1) d T' U G X Y' s u S' v dl:=by
 rcases w7 h.hs h.ok h.hu h.v20.1 h.dls h.sim id 0 with⟨e,he,h1,h2⟩|⟨a,y,t,c,h1,h2,hdn,i0,i1,ha,ht,hL,hd⟩
 ·refine⟨T,Y,S,e,?_,?_,rfl,h.up hb⟩
  ·rw[M28,h.hs,qa,h1,qe,qa,if_neg he]
  ·rw[M34,h.hu,qa,h2,qe,qa,if_neg he]
 ·have c0:=(h.sim.a4 y c hL).1
  obtain⟨S',g1,g2⟩:=h.dropped hb ha ht hL hd (e:=⟨c.id_,c.from_,c.at_,true,c.Ops,none⟩) rfl c0 rfl (by simp[moL])
  refine⟨_,_,S',0,?_,?_,by simp,g2⟩
  ·rw[M28,h.hs,qa,h1,qe,qa,if_pos rfl,g1,qa,g2.hs,qa]
  ·rw[M34,h.hu,qa,h2,qe,qa,if_pos rfl,hL.2.1,qa,qx hL.2.1,qa]
theorem qlM{I:List (List TVersion)}(hS:S.items_=I)(h20:I.length=20)(hv:∀l∈I,Vs S.now_ l):∀(r i:Nat),i+r=20→∀n,r<n→qbZ S n (i:Int) ((I.map qS).take i++List.replicate r [])=some (I.map qS):=by
 intro r
 induction r with
 | zero =>
  intro i hi n hn
  obtain⟨n,rfl⟩:=Nat.exists_eq_add_one.2 hn
  have hl:(I.map qS).length=20:=by simpa using h20
  rw[qbZ,qfu,if_neg (by omega),List.take_of_length_le (by omega),List.replicate_zero,List.append_nil,qjD,qh hl,qa,qh (by simp),qa,qa]
  rfl
 | succ r ih =>
  intro i hi n hn
  obtain⟨n,rfl⟩:=Nat.exists_eq_add_one.2 (show 0<n by omega)
  have hi2:i<I.length:=by omega
  have hv2:=hv I[i] (List.getElem_mem hi2)
  have hne:=List.length_pos_iff.2 hv2.ne
  have hn50:=hv2.n
  have hlen:((I.map qS).take i++List.replicate (r+1) []).length=20:=by simp;omega
  obtain⟨z,hz1,hz2⟩:=jx (k:=(i:Int)) hlen (by omega) (by omega)
  obtain⟨w,hw⟩:=qey (l:=I[i]) (a:=(I[i].length:Int)-1) (by omega) (by omega)
  have hwt:w.Text=qS I[i]:=by
   have h3:=(qf hw).2.2
   rw[qS,List.getLast?_eq_getElem?,show I[i].length-1=((I[i].length:Int)-1).toNat by omega,h3];rfl
  rw[qbZ,qfu,if_pos (by omega),show zd 20 S.items_ (i:Int)=some I[i] by
   obtain⟨x,e1,e2⟩:=jx (k:=(i:Int)) (hS▸h20) (by omega) (by omega)
   rw[e1,←e2,hS,qp hi2],qa,qk (by omega) (by omega),qa,hw,qa,hz1,qa,qx hz2,qa,qD i (by omega),qa,hwt]
  have he:((I.map qS).take i++List.replicate (r+1) []).set ((i:Int)).toNat (qS I[i])=(I.map qS).take (i+1)++List.replicate r []:=by
   rw[Int.toNat_natCast,List.set_append_right _ _ (by simp;omega),show i-((I.map qS).take i).length=0 by simp;omega,List.replicate_succ,List.set_cons_zero,List.take_succ_eq_append_getElem (by simpa using hi2),List.getElem_map,List.append_assoc,List.singleton_append]
  rw[he]
  exact ih (i+1) (by omega) n (by omega)
theorem qkQ{l:List TVersion}{now:Int}(h:Vs now l):rdv l now=qS l:=by
 unfold rdv vis qS
 rw[List.filter_eq_self.2 fun v hv=>by simpa using(h.b v hv).2.1]
theorem Nx.vals15(h:Nx N B d T U G X Y s u S v dl):∀(r i:Nat),i+r=20→∀n,r<n→qbY u Y n (i:Int) U ((S.items_.map qS).take i++List.replicate r []) S.logs_ S.half_ S.gen_ S.down_ S.now_ v dl=some (U,S.items_.map qS):=by
 have hl:(S.items_.map qS).length=20:=by simpa using h.ok.it
 have hup:upd U u ⟨S.logs_,S.half_,S.gen_,S.down_,S.now_,v,dl⟩=some U:=by
  rw[show(⟨S.logs_,S.half_,S.gen_,S.down_,S.now_,v,dl⟩:TStore81)=rs S v dl from rfl,qx h.hu,vg h.hu]
 intro r
 induction r with
 | zero =>
  intro i hi n hn
  obtain⟨n,rfl⟩:=Nat.exists_eq_add_one.2 hn
  rw[qbY,qft,if_neg (by omega),List.take_of_length_le (by omega),List.replicate_zero,List.append_nil,qjC,qh hl,qa,qh (by simp),qa,qa,hup]
  rfl
 | succ r ih =>
  intro i hi n hn
  obtain⟨n,rfl⟩:=Nat.exists_eq_add_one.2 (show 0<n by omega)
  have hi2:i<S.items_.length:=by have:=h.ok.it;omega
  have hlen:((S.items_.map qS).take i++List.replicate (r+1) []).length=20:=by simp;omega
  obtain⟨z,hz1,hz2⟩:=jx (k:=(i:Int)) hlen (by omega) (by omega)
  obtain⟨x,e1,e2⟩:=qjK h.hu h.ok.lg h.v20.1 h.dls h.pos i (by omega) S.now_
  have h9:=h.sim.vl i (by omega) S.items_[i] (List.getElem?_eq_getElem hi2) S.now_ (.inl rfl)
  rw[qkQ (h.ok.vs _ (List.getElem_mem hi2))]at h9
  rw[qbY,qft,if_pos (by omega),qh h.ok.lg,qa,hup,qa,e1,qa,h.hu,qa,hz1,qa,qx hz2,qa,qD i (by omega),qa,IsV.eq h.sim.c2 e2 h9]
  have he:((S.items_.map qS).take i++List.replicate (r+1) []).set ((i:Int)).toNat (qS S.items_[i])=(S.items_.map qS).take (i+1)++List.replicate r []:=by
   rw[Int.toNat_natCast,List.set_append_right _ _ (by simp;omega),show i-((S.items_.map qS).take i).length=0 by simp;omega,List.replicate_succ,List.set_cons_zero,List.take_succ_eq_append_getElem (by simpa using hi2),List.getElem_map,List.append_assoc,List.singleton_append]
  rw[he]
  exact ih (i+1) (by omega) n (by omega)
theorem Nx.vals(h:Nx N B d T U G X Y s u S v dl):M14 s T=some (S.items_.map qS)∧M15 u U Y=some (U,S.items_.map qS)∧V20 (S.items_.map qS):=by
 refine⟨?_,?_,by simpa using h.ok.it,fun x hx=>?_⟩
 ·have:=qlM rfl h.ok.it h.ok.vs 20 0 (by omega) big (by rw[qv];omega)
  rw[M14,h.hs,qa,qh h.ok.lg,qa,qh h.ok.it,qa]
  exact this
 ·rw[M15,h.hu,qa]
  exact h.vals15 20 0 (by omega) big (by rw[qv];omega)
 ·obtain⟨l,hl,rfl⟩:=List.mem_map.1 hx
  have hv:=h.ok.vs l hl
  unfold qS
  cases hg:l.getLast? with
  | none=>simp
  | some w=>exact(hv.b w (List.mem_of_getLast? hg)).2.2
end
end Go.Proofs.YtloiiohoelhldaaGreatDoor
end
section
namespace Go.Proofs.YtloiiohoelhldaaGreatDoor
open Go.S
def downed(S:TStore):TStore:=⟨S.logs_,S.half_,S.gen_,true,S.now_,S.items_,S.active_,S.over_⟩
section
variable{N B:Nat}{d:TDisk}{T:List TStore}{U:List TStore81}{G:List TLog}{X:List Ttx}{Y:List TDeal}{s u:Int}{S:TStore}{v:SS}{dl:List Int}
theorem Half.at{logs:List Int}(h:Half N G logs){k:Int}(hk:k=0∨k=1):∃a g,zd 2 logs k=some a∧idx G a=some g∧Lg N g∧g.fell_=false∧∀g',Lg N g'→g'.fell_=false→Half N (G.set a.toNat g') logs:=by
 obtain⟨a0,a1,g0,g1,rfl,hne,h0,h1,l0,l1,f0,f1⟩:=h.l
 rcases hk with rfl|rfl
 ·exact⟨a0,g0,rfl,h0,l0,f0,fun g' hl hf=>⟨a0,a1,g',g1,rfl,hne,qG h0,kw h1 (qf h0).1 hne,hl,l1,hf,f1⟩⟩
 ·exact⟨a1,g1,rfl,h1,l1,f1,fun g' hl hf=>⟨a0,a1,g0,g',rfl,hne,kw h0 (qf h1).1 hne.symm,qG h1,l0,hl,f0,hf⟩⟩
theorem qfR{t:Ttx}{c:TDeal}(ht:TxOk S.now_ t)(hd:TD t c):(rng 0 20).filter (fun k=>wr c k)=srt t.writes_:=by
 refine qaE ((qlW 20).filter _) (qlS ht.w.2.1) fun x=>?_
 rw[List.mem_filter,qkx,qdA,hd.w]
 exact⟨fun h=>h.2,fun h=>⟨ht.w.2.2 x ((hd.w x).2 h),h⟩⟩
theorem qgM{t:Ttx}{c:TDeal}(ht:TxOk S.now_ t)(hd:TD t c):psD c (rng 0 20)=qes t (srt t.writes_):=by
 rw[psD,qfR ht hd,qes]
 exact List.map_congr_left fun k hk=>by rw[hd.x k (qdA.1 hk)]
theorem Nx.keep(h:Nx N B d T U G X Y s u S v dl)(hdn:S.down_=false){a y:Int}{t:Ttx}{c:TDeal}(ha:a∈S.active_)(ht:idx X a=some t)(hL:Lv Y dl y c)(hd:TD t c):∃d' G' S1 e,M61 s a [d] T G X=some ([d'],T.set s.toNat S1,G',e) ∧
  (if 0<((moL c.texts_).length:Int) then qaf Y y (rs S v dl) [rd d] (G.map rl) U u big [67] 0 else qdd (rs S v dl) Y y U u [rd d] (G.map rl)) =
   (if e=0 then qdd (rs S v dl) Y y U u [rd d'] (G'.map rl) else some ([rd d'],U.set u.toNat (rs S1 v dl),G'.map rl,Y,e)) ∧
  (S1=S∨(S1=downed S∧e≠0))∧Dk N d' 3000∧(S1.down_=false→Half N G' S.logs_∧d'.late_.length≤300)∧G.length≤G'.length:=by
 obtain⟨hh,hlate⟩:=h.lg hdn
 obtain⟨t',ht',htk⟩:=h.ok.ac a ha
 cases qB ht ht'
 have hwl:=htk.w.1
 by_cases cw:t.writes_=[]
 ·have hm : ¬0<((moL c.texts_).length:Int):=fun hlt=>by
   obtain⟨p,hp⟩:=List.exists_mem_of_length_pos (l:=moL c.texts_) (by omega)
   have:=(hd.w p.1).2 (qQ.2 ⟨p,hp,rfl⟩)
   rw[cw]at this;cases this
  refine⟨d,G,S,0,?_,?_,.inl rfl,h.dk,h.lg,Nat.le_refl _⟩
  ·rw[M61,h.hs,qa,ht,qa,if_pos (by rw[cw];rfl),vg h.hs]
  ·rw[if_neg hm,if_pos rfl]
 ·have hm:0<((moL c.texts_).length:Int):=by
   obtain⟨k,hk⟩:=List.exists_mem_of_ne_nil _ cw
   obtain⟨p,hp,_⟩:=qQ.1 ((hd.w k).1 hk)
   have:=List.length_pos_of_mem hp;omega
  have hsl:(srt t.writes_).length=t.writes_.length:=(qei _).length_eq
  have e1:=qhd (T:=T) (s:=s) (D:=[d]) (G:=G) ht htk (L:=srt t.writes_) (fun k hk=>htk.w.2.2 k (qdA.1 hk)) (by omega) (srt t.writes_).length 0 (by omega) big (by rw[qv];omega)
  have e2:=qfS (U:=U) (u:=u) (R:=rs S v dl) (D:=[rd d]) (H:=G.map rl) hL.2.1 (fun k h0 h1 hk=>by
   rw[←hd.x k ((hd.w k).2 hk)];exact(xh htk h0 h1).2.1) 20 0 (by omega) big (by rw[qv];omega) [67] (by simp)
  rw[show((0:Nat):Int)=0 from rfl]at e1 e2
  rw[qgM htk hd]at e2
  obtain⟨z,hz⟩:∃z,z=(67::prs (qes t (srt t.writes_)):List UInt8):=⟨_,rfl⟩
  rw[List.singleton_append,←hz]at e2
  rw[←hz,show prs (qes t (List.take 0 (srt t.writes_)))=[] from rfl]at e1
  rw[M61,h.hs,qa,ht,qa,if_neg (by have:=List.length_pos_iff.2 cw;omega),qlG,qE (by simp;omega),qa,List.nil_append,qa,qiu (by omega),qa,e1,if_pos hm,e2]
  obtain⟨x,g,q1,q2,q3,q4,q5⟩:=hh.at h.hf
  rw[qhP,qh h.ok.lg,qa,q1,qa,qh2,qh (show(rs S v dl).logs_.length=2 from h.ok.lg),qa,show zd 2 (rs S v dl).logs_ (rs S v dl).half_=some x from q1,qa]
  obtain⟨d1,g1,e,p1,p2,p3⟩:=qcX (h.dk.more hlate) (by omega) q2 q3 z
  rw[p1,qg,p2,qg]
  have fall:∀e',e'≠0→M64 s e' T=some (T.set s.toNat (downed S),e'):=fun e' he=>by
   rw[y9 h.hs h.ok.lg,hdn,show(false||decide (e'≠0))=true by simpa using he];rfl
  have hdR:∀{ρ:Type} (f:List TStore81→Option ρ),(qb (upd U u ⟨(rs S v dl).logs_,(rs S v dl).half_,(rs S v dl).gen_,true,(rs S v dl).now_,(rs S v dl).first_,(rs S v dl).deals_⟩) f)=f (U.set u.toNat (rs (downed S) v dl)):=fun f=>by
   rw[qx h.hu,qa];rfl
  have hid:idx (T.set s.toNat (downed S)) s=some (downed S):=qG h.hs
  rcases p3 with⟨n0,rfl,rfl,n1⟩|⟨rfl,⟨k,rfl,n1⟩,n2,n3,n4⟩|⟨n0,rfl,n1,n2,n3⟩
  ·have n1:=n1 q4
   refine⟨d1,G,S,e,?_,?_,.inl rfl,h.dk,h.lg,Nat.le_refl _⟩
   ·rw[if_neg n0,vg q2,vg h.hs]
    rcases n1 with rfl|rfl
    ·rw[if_pos rfl]
    ·rw[if_neg (by simp),if_pos rfl]
   ·rw[vg q2,vg h.hu]
    rcases n1 with rfl|rfl<;>simp
  ·obtain⟨d2,e',r1,r2,r3,r4⟩:=qgI n3 (qG q2 (y:=adv g k)) n4 (show(adv g k).fell_=false from q4)
   rw[if_pos rfl,r1,qg,if_neg (by simp),if_neg (by simp),if_pos rfl,qa,r2,qg,vu]
   by_cases c0:e'=0
   ·subst c0
    refine⟨d2,_,S,0,?_,by rw[if_neg (by simp),if_pos rfl],.inl rfl,r3.more (by rw[r4 rfl];simp),fun _=>⟨q5 _ (n4.fell 0) (by simp[qO,adv,q4]),by rw[r4 rfl];simp⟩,by simp⟩
    rw[y9 h.hs h.ok.lg,qe,qG h.hs,qa,hdn]
    rw[show(⟨S.logs_,S.half_,S.gen_,false||decide ((0:Int)≠0),S.now_,S.items_,S.active_,S.over_⟩:TStore)=S by rw[←hdn];simp]
   ·refine⟨d2,G.set x.toNat (qO (adv g k) e'),downed S,e',?_,?_,.inr ⟨rfl,c0⟩,r3.more (by have:=r3.ll;omega),fun q=>(by cases q),by simp⟩
    ·rw[fall e' c0,qe,hid,qa]
    ·rw[if_pos c0,if_neg c0,hdR]
  ·refine⟨d1,G.set x.toNat (qO g e),downed S,e,?_,?_,.inr ⟨rfl,n0⟩,n1.more (by have:=n1.ll;omega),fun q=>(by cases q),by simp⟩
   ·rw[if_neg n0,if_neg n2,if_neg n3,fall e n0,qe,hid,qa]
   ·rw[if_neg n2,if_neg n3,if_neg n0,if_pos n0,if_neg n0,hdR]
end
end Go.Proofs.YtloiiohoelhldaaGreatDoor
end
