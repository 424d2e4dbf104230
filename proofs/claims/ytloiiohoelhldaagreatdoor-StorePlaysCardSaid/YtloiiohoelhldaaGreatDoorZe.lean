import Derived.Test.YtloiiohoelhldaaGreatDoorZb
import Derived.KernelRfl
import Derived.Test.YtloiiohoelhldaaGreatDoorZc
import Derived.Test.YtloiiohoelhldaaGreatDoorZa
set_option linter.unusedVariables false
set_option linter.unusedSimpArgs false
section
namespace Go.S
def qcv(fs:Fr):Op→Option Value
 | .move x=>val fs x
 | .assign x=>val fs x
 | .extract x i=>match val fs x with
  | some (.tuple vs)=>vs.toList[i]?
  | _=>none
 | .pick c x y=>match val fs c with
  | some (.bool true)=>val fs x
  | some (.bool false)=>val fs y
  | _=>none
 | .nilCheck x=>match val fs x with
  | some (.pointer (some a))=>some (.pointer (some a))
  | _=>none
 | _=>none
def qdz(ops:Array Oper)(n:Nat)(fs:Fr)(o:Oper):Option Fr:=match o.dst with
 | some d=>match Nat.blt d n with
  | true=>match qak ops fs o.guard with
   | true=>some ((d,undef)::fs)
   | false=>match jk ops fs o.guard with
    | true=>match qcv fs o.op with
     | some v=>some ((d,v)::fs)
     | none=>none
    | false=>none
  | false=>none
 | none=>match qak ops fs o.guard with
  | true=>some fs
  | false=>none
def qlV(ops:Array Oper)(n:Nat):Nat→List Oper→Fr→Option (List Oper×Fr)
 | 0,l,fs=>some (l,fs)
 | k+1,o::l,fs=>match qdz ops n fs o with
  | some fs'=>qlV ops n k l fs'
  | none=>none
 | _+1,[],_=>none
section
variable{P:Program}{Q:Exit→Act→World→Prop}{n:Nat}{C D:World→Prop}{fs fs':Fr}{t:TypeId}{ops:Array Oper}{l l' rest:List Oper}{d:Nat}{pos:String}{af:Array Edge}{op:Op}{v:Value}{x y c:Operand}{j k i:Nat}{b:Bool}{o:Oper}{listed:Array Bool}{bss:List (List Nat)}{Bs:List (World→Prop)}{S:Array Bool→World→Prop}{Z:World→Prop}
theorem qbd(h:qcv fs op=some v):Y P op t n fs C v:=by
 unfold qcv at h
 split at h
 ·exact bv h
 ·exact eb h
 ·split at h
  ·rename_i x i vs hx
   exact Y.extract (vs:=vs.toList) (by simpa using hx) h
  ·cases h
 ·split at h
  ·rename_i hc;exact eJ hc h
  ·rename_i hc;exact eK hc h
  ·cases h
 ·split at h
  ·rename_i hx
   cases h
   exact cK hx
  ·cases h
 ·cases h
inductive qje(ops:Array Oper)(n:Nat)(fs:Fr)(o:Oper):Fr→Prop
 | pass {e:Nat} (h1:o.dst=some e) (h2:Nat.blt e n=true) (h3:qak ops fs o.guard=true):qje ops n fs o ((e,undef)::fs)
 | want {e:Nat} {u:Value} (h1:o.dst=some e) (h2:Nat.blt e n=true) (h3:jk ops fs o.guard=true) (h4:qcv fs o.op=some u):qje ops n fs o ((e,u)::fs)
 | none (h1:o.dst=none) (h3:qak ops fs o.guard=true):qje ops n fs o fs
theorem wa(h:qdz ops n fs o=some fs'):qje ops n fs o fs':=by
 unfold qdz at h
 split at h
 ·rename_i d hd
  split at h
  ·rename_i hb
   split at h
   ·rename_i hp
    cases h
    exact .pass hd hb hp
   ·split at h
    ·rename_i hw
     split at h
     ·rename_i v hv
      cases h
      exact .want hd hb hw hv
     ·cases h
    ·cases h
  ·cases h
 ·rename_i hd
  split at h
  ·rename_i hp
   cases h
   exact .none hd hp
  ·cases h
theorem eY(h:qdz ops n fs o=some fs')(next:L P ops Q n C rest fs'):L P ops Q n C (o::rest) fs:=by
 have h':=wa h
 obtain⟨dst,op,t,pos,af,g⟩:=o
 intro a w hs hc
 cases h' with
 | pass h1 h2 h3 =>
  simp only at h1 h3
  subst h1
  simp only[wpList,zq hs _ h3,Bool.false_eq_true,if_false]
  exact next _ w (hs.put h2 _) hc
 | want h1 h2 h3 h4 =>
  simp only at h1 h3 h4
  subst h1
  simp only[wpList,xt hs _ h3,if_true]
  exact .inl ((qbd h4:Y P op t n fs C _).wp _ pos af g hs hc fun w' hc'=>next _ w' (hs.put h2 _) hc')
 | none h1 h3 =>
  simp only at h1 h3
  subst h1
  simp only[wpList,zq hs _ h3,Bool.false_eq_true,if_false]
  exact next a w hs hc
theorem eW(h:qdz ops n fs o=some fs')(next:U P ops Q n C rest fs'):U P ops Q n C (o::rest) fs:=by
 have h':=wa h
 obtain⟨dst,op,t,pos,af,g⟩:=o
 intro a hs
 cases h' with
 | pass h1 h2 h3 =>
  simp only at h1 h3
  subst h1
  simp only[wpQuiet,zq hs _ h3,Bool.false_eq_true,if_false]
  exact next _ (hs.put h2 _)
 | want h1 h2 h3 h4 =>
  simp only at h1 h3 h4
  subst h1
  simp only[wpQuiet,xt hs _ h3,if_true]
  exact⟨_,fun w hc=>(qbd h4:Y P op t n fs C _) _ _ _ _ a w hs hc,next _ (hs.put h2 _)⟩
 | none h1 h3 =>
  simp only at h1 h3
  subst h1
  simp only[wpQuiet,zq hs _ h3,Bool.false_eq_true,if_false]
  exact next a hs
theorem L.r:∀(k:Nat) {l:List Oper} {fs:Fr} (h:qlV ops n k l fs=some (l',fs')) (next:L P ops Q n C l' fs'),L P ops Q n C l fs
 | 0,l,fs,h,next=>by cases h;exact next
 | k+1,[],fs,h,next=>by cases h
 | k+1,o::l,fs,h,next=>by
  unfold qlV at h
  split at h
  ·rename_i fs1 h1
   exact eY h1 (L.r k h next)
  ·cases h
theorem U.r:∀(k:Nat) {l:List Oper} {fs:Fr} (h:qlV ops n k l fs=some (l',fs')) (next:U P ops Q n C l' fs'),U P ops Q n C l fs
 | 0,l,fs,h,next=>by cases h;exact next
 | k+1,[],fs,h,next=>by cases h
 | k+1,o::l,fs,h,next=>by
  unfold qlV at h
  split at h
  ·rename_i fs1 h1
   exact eW h1 (U.r k h next)
  ·cases h
def okV(ops:Array Oper)(bss:List (List Nat)):Array Bool→List Nat→Bool
 | _,[]=>true
 | listed,i::r=>qlq ops bss [] listed i&&okV ops bss (listed.setIfInBounds i true) r
def qkO(listed:Array Bool):List Nat→Array Bool
 | []=>listed
 | i::r=>qkO (listed.setIfInBounds i true) r
def qmM(ops:Array Oper)(n:Nat):List Nat→Fr→Option Fr
 | [],fs=>some fs
 | i::r,fs=>match ops[i]? with
  | some o=>match qdz ops n fs o with
   | some fs'=>qmM ops n r fs'
   | none=>none
  | none=>none
theorem ed(hn:Nx2 ops S Z listed i o)(h:qdz ops n fs o=some fs')(next:V2 P ops Q n S (listed.setIfInBounds i true) k C fs'):V2 P ops Q n S listed (k+1) C fs:=by
 have h':=wa h
 obtain⟨dst,op,t,pos,af,g⟩:=o
 cases h' with
 | pass h1 h2 h3 =>
  simp only at h1 h3
  subst h1
  exact eU hn h3 h2 next
 | want h1 h2 h3 h4 =>
  simp only at h1 h3 h4
  subst h1
  by_cases hp:xd op=true
  ·exact eT hn h3 hp h2 (qbd h4) next
  ·unfold qcv at h4
   split at h4
   ·exact absurd rfl hp
   ·exact absurd rfl hp
   ·exact absurd rfl hp
   ·exact absurd rfl hp
   ·split at h4
    ·rename_i hx
     cases h4
     exact dM hn h3 h2 hx next
    ·cases h4
   ·cases h4
 | none h1 h3 =>
  simp only at h1 h3
  subst h1
  exact cZ hn h3 next
theorem V2.r:∀(is:List Nat) {listed:Array Bool} {fs:Fr} {k:Nat} (h:okV ops bss listed is=true) (h2:qmM ops n is fs=some fs') (next:V2 P ops Q n (stC bss Bs D) (qkO listed is) k C fs'),V2 P ops Q n (stC bss Bs D) listed (k+is.length) C fs
 | [],listed,fs,k,h,h2,next=>by cases h2;exact next
 | i::r,listed,fs,k,h,h2,next=>by
  simp only[okV,Bool.and_eq_true]at h
  unfold qmM at h2
  split at h2
  ·rename_i o ho
   split at h2
   ·rename_i fs1 h3
    exact ed (Z:=fun _=>True) (cI [] h.1 ho fun _ _ _ _=>trivial) h3 (V2.r r h.2 h2 next)
   ·cases h2
  ·cases h2
end
theorem hI{D:World→Prop}:∀w,D w→D w:=fun _ h=>h
section
variable{P:Program}{Q:Exit→Act→World→Prop}{n:Nat}{C D Z:World→Prop}{fs fs':Fr}{t:TypeId}{ops:Array Oper}{l l' rest:List Oper}{d id:Nat}{pos:String}{af:Array Edge}{op:Op}{v u:Value}{x y c:Operand}{k i:Nat}{g:Option (Nat×Bool)}{listed:Array Bool}{bss:List (List Nat)}{Bs:List (World→Prop)}
variable{w0 w:World}{own:List Nat}{m m':List As}{α ρ:Type}{r:ρ}{b off:Nat}{cs:List Value}{e te:TypeId}{cd:Code}
theorem Cls.s(h:Cls w0 own m w)(is:List Nat)(hn:is.Nodup:=by decide)(hm:is.map (m[·]?)=m'.map some:=by exact rfl):Cls w0 own m' w:=h.sel is hn hm
theorem nsr{yy:Code}{K:Exit→Act→World→Prop}(h:L P l.toArray (Exit.then (yy.wp P K) K) n C l fs):L P ops (Exit.then ((Code.seq (.region id l.toArray false) yy).wp P K) K) n C [] fs:=ae (ab (aE (ah h)))
theorem nr{K:Exit→Act→World→Prop}(h:L P l.toArray K n C l fs):L P ops (Exit.then ((Code.region id l.toArray false).wp P K) K) n C [] fs:=ae (ab (ah h))
theorem sr{yy:Code}(h:L P l.toArray (Exit.then (yy.wp P Q) Q) n C l fs):W P Q n C (.seq (.region id l.toArray false) yy) fs:=aE (ah h)
theorem ln{K:Exit→Act→World→Prop}(h:W P K n C cd fs):L P ops (Exit.then (cd.wp P K) K) n C [] fs:=ae (ab h)
theorem ay{J:Fr→(World→Prop)→Prop}{gs:Fr}{D:World→Prop}(h:J gs D)(hD:∀w,C w→D w)(hF:Sub gs fs:=by (repeat refine⟨rfl,?_⟩);trivial):E .normal (KS Q n J) n C fs:=bB h hF hD
theorem bi{J:Nat→Fr→(World→Prop)→Prop}{m m':Nat}{gs:Fr}{D:World→Prop}(h:J m' gs D)(hD:∀w,C w→D w)(hm:m'<m:=by exact Nat.lt_succ_self _)(hF:Sub gs fs:=by (repeat refine⟨rfl,?_⟩);trivial):E .normal (KL Q n J m) n C fs:=eA h hm hF hD
theorem nb{a b:Nat}(h:Nat.ble a b=true:=by exact rfl):a≤b:=Nat.le_of_ble_eq_true h
theorem sI(is:List Nat)(hn:is.Nodup:=by decide)(hm:is.map (m[·]?)=m'.map some:=by exact rfl):∀w,Cls w0 own m w→Cls w0 own m' w:=fun _ hw=>hw.sel is hn hm
end
end Go.S
end
section
namespace Go.S
section
variable{P:Program}{Q:Exit→Act→World→Prop}{n:Nat}{fs:Fr}{ops:Array Oper}
variable{w0:World}{own:List Nat}{m m':List As}{e:TypeId}{p:Nat}
variable{α:Type}{row:α→List Value→List Value}{sub:α→List Value→List As}{g:Nat→Nat}{gh:Nat→List Value}{l:List α}{a:Int}{u0 u1:α}
theorem Cls.aS{w:World}(hw:Cls w0 own m w)(is:List Nat)(hi:idx l a=some u0)(hm:is.map (m[·]?)=((thg row sub e (g a.toNat) (gh a.toNat) u0)++arn row sub e g gh l [a.toNat]::m').map some)(hn:is.Nodup:=by decide):Cls w0 own (arn row sub e g gh l []::m') w:=
 hw.arShut (hs':=[a.toNat]) is hi hn hm (fun _=>List.mem_cons) List.not_mem_nil
theorem Cls.aO{w:World}(hw:Cls w0 own m w)(p:Nat)(hm:m[p]?=some (arn row sub e g gh l []))(hi:idx l a=some u0):Cls w0 own (thg row sub e (g a.toNat) (gh a.toNat) u0++arn row sub e g gh l [a.toNat]::m.eraseIdx p) w:=
 hw.arOpen hm hi List.not_mem_nil
theorem ez{zz:List α}{vs':List Value}{ll:List Oper}(is:List Nat)(hz:upd l a u1=some zz)(hm:is.map (m[·]?)=((thg row sub e (g a.toNat) vs' u1)++arn row sub e g gh l [a.toNat]::m').map some)(next:∀gh',L P ops Q n (Cls w0 own (arn row sub e g gh' zz []::m')) ll fs)(hn:is.Nodup:=by decide):L P ops Q n (Cls w0 own m) ll fs:=
 dV (hs':=[a.toNat]) is hz hn hm (fun _=>List.mem_cons) List.not_mem_nil next
theorem fM{zz:List α}{vs':List Value}{ll:Code}(is:List Nat)(hz:upd l a u1=some zz)(hm:is.map (m[·]?)=((thg row sub e (g a.toNat) vs' u1)++arn row sub e g gh l [a.toNat]::m').map some)(next:∀gh',W P Q n (Cls w0 own (arn row sub e g gh' zz []::m')) ll fs)(hn:is.Nodup:=by decide):W P Q n (Cls w0 own m) ll fs:=
 dL (hs':=[a.toNat]) is hz hn hm (fun _=>List.mem_cons) List.not_mem_nil next
theorem bL{zz:List α}{vs':List Value}{ll:Exit}(is:List Nat)(hz:upd l a u1=some zz)(hm:is.map (m[·]?)=((thg row sub e (g a.toNat) vs' u1)++arn row sub e g gh l [a.toNat]::m').map some)(next:∀gh',E ll Q n (Cls w0 own (arn row sub e g gh' zz []::m')) fs)(hn:is.Nodup:=by decide):E ll Q n (Cls w0 own m) fs:=
 dX (hs':=[a.toNat]) is hz hn hm (fun _=>List.mem_cons) List.not_mem_nil next
end
section
variable{P:Program}{Q:Exit→Act→World→Prop}{n:Nat}{fs:Fr}{t:TypeId}{ops:Array Oper}{rest:List Oper}{pos:String}{af:Array Edge}{w0:World}{own:List Nat}{m:List As}
theorem fP{x y:Operand}{b off i k:Nat}{c:List Value}{e te:TypeId}{v:Value}{vs:List Value}(hs:szB P te k=true)(hx:val fs x=some (pt b off))(hy:val fs y=some v)(hv:v.cells.toList=vs)(hk:vs.length=k)
  (hm:m[i]?=some (.obj b c e)) (hl:off+k≤c.length) (next:L P ops Q n (Cls w0 own (m.set i (.obj b (over c off vs) e))) rest fs) (h1:∀u∈vs,u.oneCell'=true:=by simp[Value.oneCell',Value.cells,st,pt,el]) :
  L P ops Q n (Cls w0 own m) (⟨none,.store te x y,t,pos,af,none⟩::rest) fs:=bS hs hx hy hv hk h1 hm hl next
end
class RL{α:Type}(row:α→List Value→List Value):Prop where
 h:∀z v,(row z v).length=1
instance {α:Type}(f:α→Value):RL (fzr fun x=>[f x]):=⟨fun _ _=>rfl⟩
instance {α:Type}:RL (qn (α:=α)):=⟨fun _ _=>rfl⟩
instance {g:Nat→Nat}:RL (fzr (PR g)):=⟨fun _ _=>rfl⟩
instance:RL (fzr SR):=⟨fun _ _=>rfl⟩
theorem zl{α:Type}{row:α→List Value→List Value}{vs:Nat→List Value}{l:List α}[RL row]:(zr row vs l).flatten.length=l.length∧(List.map List.length (zr row vs l)).sum=l.length:=by
 have:=qee (vs:=vs) (l:=l) (RL.h (row:=row))
 rw[←List.length_flatten]
 omega
end Go.S
end
section
namespace Go.S
theorem O{α:Sort _}{a:α}:a=a:=rfl
section
variable{P:Program}{Q:Exit→Act→World→Prop}{n:Nat}{C D Z:World→Prop}{fs fs':Fr}{ops:Array Oper}{rest:List Oper}{d d':Nat}{op:Op}{t t':TypeId}{pos pos':String}{af af':Array Edge}{α ρ:Type}{r:ρ}{x y z:Operand}{a b:Int}{tx ty:TypeId}{v:Value}{k:IntKind}{A B:Option ρ}
theorem yL(hy:Y P op t n fs C v)(k:L P ops Q n C rest ((d,v)::fs))(hd:Nat.blt d n=true:=by exact rfl):L P ops Q n C (⟨some d,op,t,pos,af,none⟩::rest) fs:=fS hd hy k
theorem iL{p:Prop}[Decidable p](h:(if p then A else B)=some r)(hy:Y P op t n fs C (.bool (decide p)))(k1:p→A=some r→L P ops Q n C rest ((d,.bool true)::fs))(k2 : ¬p→B=some r→L P ops Q n C rest ((d,.bool false)::fs))(hd:Nat.blt d n=true:=by exact rfl):L P ops Q n C (⟨some d,op,t,pos,af,none⟩::rest) fs:=dU h hd hy k1 k2
theorem ltL(h:(if a<b then A else B)=some r)(k1:a<b→A=some r→L P ops Q n C rest ((d,.bool true)::fs))(k2 : ¬a<b→B=some r→L P ops Q n C rest ((d,.bool false)::fs))(hx:val fs x=some (.int k a):=by exact rfl)(hy:val fs y=some (.int k b):=by exact rfl)(hd:Nat.blt d n=true:=by exact rfl):L P ops Q n C (⟨some d,.binOp .lss tx x y ty,t,pos,af,none⟩::rest) fs:=dU h hd (dE hx hy) k1 k2
theorem gtL(h:(if b<a then A else B)=some r)(k1:b<a→A=some r→L P ops Q n C rest ((d,.bool true)::fs))(k2 : ¬b<a→B=some r→L P ops Q n C rest ((d,.bool false)::fs))(hx:val fs x=some (.int k a):=by exact rfl)(hy:val fs y=some (.int k b):=by exact rfl)(hd:Nat.blt d n=true:=by exact rfl):L P ops Q n C (⟨some d,.binOp .gtr tx x y ty,t,pos,af,none⟩::rest) fs:=dU h hd (dx hx hy) k1 k2
theorem eqL(h:(if a=b then A else B)=some r)(k1:a=b→A=some r→L P ops Q n C rest ((d,.bool true)::fs))(k2 : ¬a=b→B=some r→L P ops Q n C rest ((d,.bool false)::fs))(hx:val fs x=some (.int k a):=by exact rfl)(hy:val fs y=some (.int k b):=by exact rfl)(hd:Nat.blt d n=true:=by exact rfl):L P ops Q n C (⟨some d,.binOp .eql tx x y ty,t,pos,af,none⟩::rest) fs:=dU h hd (dy hx hy) k1 k2
theorem neL(h:(if a≠b then A else B)=some r)(k1:a≠b→A=some r→L P ops Q n C rest ((d,.bool true)::fs))(k2 : ¬a≠b→B=some r→L P ops Q n C rest ((d,.bool false)::fs))(hx:val fs x=some (.int k a):=by exact rfl)(hy:val fs y=some (.int k b):=by exact rfl)(hd:Nat.blt d n=true:=by exact rfl):L P ops Q n C (⟨some d,.binOp .neq tx x y ty,t,pos,af,none⟩::rest) fs:=dU h hd (d5 hx hy) k1 k2
theorem ibL{b:Bool}(h:(if b=true then A else B)=some r)(hy:Y P op t n fs C (.bool b))(k1:b=true→A=some r→L P ops Q n C rest ((d,.bool true)::fs))(k2 : ¬b=true→B=some r→L P ops Q n C rest ((d,.bool false)::fs))(hd:Nat.blt d n=true:=by exact rfl):L P ops Q n C (⟨some d,op,t,pos,af,none⟩::rest) fs:=ft h hd hy k1 k2
theorem mL{o:Option α}{f:α→Option ρ}(V:α→Value)(h:qb o f=some r)(hy:∀x,o=some x→Y P op t n fs C (V x))(k:∀x,o=some x→f x=some r→L P ops Q n C rest ((d,V x)::fs))(hd:Nat.blt d n=true:=by exact rfl):L P ops Q n C (⟨some d,op,t,pos,af,none⟩::rest) fs:=fT h hd hy k
theorem mI{o:Option Int}{f:Int→Option ρ}(h:qb o f=some r)(hy:∀x,o=some x→Y P op t n fs C (.int .i64 x))(k:∀x,o=some x→f x=some r→L P ops Q n C rest ((d,.int .i64 x)::fs))(hd:Nat.blt d n=true:=by exact rfl):L P ops Q n C (⟨some d,op,t,pos,af,none⟩::rest) fs:=fT h hd hy k
theorem mA{f:Int→Option ρ}(h:qb (i64 (a+b)) f=some r)(k:∀x,i64 (a+b)=some x→f x=some r→L P ops Q n C rest ((d,.int .i64 x)::fs))(hx:val fs x=some (.int .i64 a):=by exact rfl)(hy:val fs y=some (.int .i64 b):=by exact rfl)(hd:Nat.blt d n=true:=by exact rfl):L P ops Q n C (⟨some d,.binOp .add tx x y ty,t,pos,af,none⟩::rest) fs:=fT h hd (bh hx hy) k
theorem tkL{j:Nat}{b:Bool}{o:Option Tmp}(k:L P ops Q n C (⟨o,op,t,pos,af,none⟩::rest) fs)(hg:gd ops fs j=some (.bool b):=by exact rfl):L P ops Q n C (⟨o,op,t,pos,af,some (j,b)⟩::rest) fs:=L.take hg k
theorem yF{b off:Nat}{s:TypeId}{j fo:Nat}(hf:qj P s j fo=true)(hx:val fs x=some (pt b off))(k:L P ops Q n C rest ((d,pt b (off+fo))::fs))(hd:Nat.blt d n=true:=by exact rfl):L P ops Q n C (⟨some d,.fieldAddr s x j,t,pos,af,none⟩::rest) fs:=fS hd (aa hf hx) k
theorem yN{g:Nat→Nat}{l:List α}{u0:α}(hx:val fs x=some (VP g a))(h:idx l a=some u0)(k:L P ops Q n C rest ((d,pt (g a.toNat) 0)::fs))(hd:Nat.blt d n=true:=by exact rfl):L P ops Q n C (⟨some d,.nilCheck x,t,pos,af,none⟩::rest) fs:=fS hd (aQ hx h) k
theorem yNF{g:Nat→Nat}{l:List α}{u0:α}{s:TypeId}{j fo:Nat}(hx:val fs x=some (VP g a))(h:idx l a=some u0)(hf:qj P s j fo=true)(k:L P ops Q n C rest ((d',pt (g a.toNat) (0+fo))::(d,pt (g a.toNat) 0)::fs))(hy:val ((d,pt (g a.toNat) 0)::fs) y=some (pt (g a.toNat) 0):=by exact rfl)(hd:Nat.blt d n=true:=by exact rfl)(hd':Nat.blt d' n=true:=by exact rfl):L P ops Q n C (⟨some d,.nilCheck x,t,pos,af,none⟩::⟨some d',.fieldAddr s y j,t',pos',af',none⟩::rest) fs:=fS hd (aQ hx h) (fS hd' (aa hf hy) k)
variable{w0:World}{own:List Nat}{m:List As}
theorem yP(i:Nat){b off:Nat}{c:List Value}{e te:TypeId}(ha:qP P te false=true)(hx:val fs x=some (pt b off))(hm:m[i]?=some (.obj b c e))(hv:c[off]?=some v)(k:L P ops Q n (Cls w0 own m) rest ((d,v)::fs))(hd:Nat.blt d n=true:=by exact rfl):L P ops Q n (Cls w0 own m) (⟨some d,.load te x,t,pos,af,none⟩::rest) fs:=fS hd (am ha hx hm hv) k
theorem yNP{g:Nat→Nat}{l:List α}{u0:α}{s:TypeId}{j fo d2:Nat}{t2:TypeId}{pos2:String}{af2:Array Edge}{c:List Value}{e te:TypeId}(hx:val fs x=some (VP g a))(h:idx l a=some u0)(hf:qj P s j fo=true)(i:Nat)(ha:qP P te false=true)(hm:m[i]?=some (.obj (g a.toNat) c e))(hv:c[0+fo]?=some v)(k:L P ops Q n (Cls w0 own m) rest ((d2,v)::(d',pt (g a.toNat) (0+fo))::(d,pt (g a.toNat) 0)::fs))
  (hy:val ((d,pt (g a.toNat) 0)::fs) y=some (pt (g a.toNat) 0):=by exact rfl) (hz:val ((d',pt (g a.toNat) (0+fo))::(d,pt (g a.toNat) 0)::fs) z=some (pt (g a.toNat) (0+fo)):=by exact rfl) (hd:Nat.blt d n=true:=by exact rfl) (hd':Nat.blt d' n=true:=by exact rfl) (hd2:Nat.blt d2 n=true:=by exact rfl):L P ops Q n (Cls w0 own m) (⟨some d,.nilCheck x,t,pos,af,none⟩::⟨some d',.fieldAddr s y j,t',pos',af',none⟩::⟨some d2,.load te z,t2,pos2,af2,none⟩::rest) fs:=
 fS hd (aQ hx h) (fS hd' (aa hf hy) (fS hd2 (am ha hz hm hv) k))
theorem aG(i:Nat){e:TypeId}{k:Nat}{rows:List (List Value)}(h:m[i]?=some (.sl v e k rows)):∀w,Cls w0 own m w→At w v k rows:=fun w hw=>As.at_ (hw.get h)
theorem asI{row:α→List Value→List Value}{sub:α→List Value→List As}{e:TypeId}{g:Nat→Nat}{gh:Nat→List Value}{l:List α}{u0:α}{m':List As}(is:List Nat)(hi:idx l a=some u0)(hm:is.map (m[·]?)=((thg row sub e (g a.toNat) (gh a.toNat) u0)++arn row sub e g gh l [a.toNat]::m').map some)(hn:is.Nodup:=by decide):∀w,Cls w0 own m w→Cls w0 own (arn row sub e g gh l []::m') w:=fun _ hw=>hw.aS is hi hm hn
theorem aoI{row:α→List Value→List Value}{sub:α→List Value→List As}{e:TypeId}{g:Nat→Nat}{gh:Nat→List Value}{l:List α}{u0:α}{m':List As}(p:Nat)(hm:m[p]?=some (arn row sub e g gh l []))(hi:idx l a=some u0)(hq:m'=thg row sub e (g a.toNat) (gh a.toNat) u0++arn row sub e g gh l [a.toNat]::m.eraseIdx p:=by exact rfl):∀w,Cls w0 own m w→Cls w0 own m' w:=fun _ hw=>hq▸hw.aO p hm hi
theorem svL{b off k:Nat}{c:List Value}{e te:TypeId}(i:Nat)(vs:List Value)(hs:szB P te k=true)(hx:val fs x=some (pt b off))(hy:val fs y=some v)(hm:m[i]?=some (.obj b c e))(next:L P ops Q n (Cls w0 own (m.set i (.obj b (over c off vs) e))) rest fs)(hv:v.cells.toList=vs:=by exact rfl)(hk:vs.length=k:=by exact rfl)(hl:Nat.ble (off+k) c.length=true:=by exact rfl)(h1:∀u∈vs,u.oneCell'=true:=by simp[Value.oneCell',Value.cells,st,pt,el]) :
  L P ops Q n (Cls w0 own m) (⟨none,.store te x y,t,pos,af,none⟩::rest) fs:=bS hs hx hy hv hk h1 hm (Nat.le_of_ble_eq_true hl) next
theorem dP(A M:List As){f:FuncId}{xs:List Operand}{ts:Array TypeId}{vs:List Value}{R:Value→List As→Prop}(hx:vals fs xs=some vs)(hc:∀w,Cls w0 own (A++M) w→qz P f vs (A.flatMap As.foot) w R)(next:∀v m',R v m'→L P ops Q n (Cls w0 own (m'++M)) rest ((d,v)::fs))(he:kn P f=true:=by kernel_rfl)(hd:Nat.blt d n=true:=by exact rfl):L P ops Q n (Cls w0 own (A++M)) (⟨some d,.call ⟨.value (.func f),xs.toArray,ts⟩,t,pos,af,none⟩::rest) fs:=aV hd he hx hc next
theorem ye{f:FuncId}{xs:List Operand}{ts:Array TypeId}{vs:List Value}{R:List As→Prop}(hx:vals fs xs=some vs)(hc:∀w,Cls w0 own m w→Does P f vs w fun u mm=>u=v∧R mm)(he:kn P f=true:=by kernel_rfl):Y P (.call ⟨.value (.func f),xs.toArray,ts⟩) t n fs (Cls w0 own m) v:=dK he hx fun w hw=>(hc w hw).mono fun _ _ h=>h.1
theorem yf{f:FuncId}{xs:List Operand}{ts:Array TypeId}{vs:List Value}{R:List As→Prop}(he:kn P f=true)(hx:vals fs xs=some vs)(hc:∀w,Cls w0 own m w→Does P f vs w fun u mm=>u=v∧R mm):Y P (.call ⟨.value (.func f),xs.toArray,ts⟩) t n fs (Cls w0 own m) v:=ye hx hc he
theorem rT{fn:Func}{R:Ending→World→Prop}{t:Tmp}(h:∀w,C w→R (.returned v) w)(hr:fn.results=#[.tmp t]:=by exact rfl)(hv:look fs t=some v:=by exact rfl):E .ret (bodyPost P fn R) n C fs:=bb hr hv h
theorem rT2{fn:Func}{R:Ending→World→Prop}{t u:Tmp}{x:Value}(h:∀w,C w→R (.returned (.tuple #[v,x])) w)(hr:fn.results=#[.tmp t,.tmp u]:=by exact rfl)(hv:look fs t=some v:=by exact rfl)(hx:look fs u=some x:=by exact rfl):E .ret (bodyPost P fn R) n C fs:=dW hr hv hx h
theorem rT3{fn:Func}{R:Ending→World→Prop}{t u s:Tmp}{x y:Value}(h:∀w,C w→R (.returned (.tuple #[v,x,y])) w)(hr:fn.results=#[.tmp t,.tmp u,.tmp s]:=by exact rfl)(hv:look fs t=some v:=by exact rfl)(hx:look fs u=some x:=by exact rfl)(hy:look fs s=some y:=by exact rfl):E .ret (bodyPost P fn R) n C fs:=fv hr hv hx hy h
theorem bi1{α:Type}{o:Option α}{f:α→Option ρ}{G:Prop}(h:qb o f=some r)(k:∀x,o=some x→f x=some r→G):G:=let⟨x,h1,h2⟩:=qq h;k x h1 h2
theorem bi2{α β:Type}{o:Option (α×β)}{f:α→β→Option ρ}{G:Prop}(h:qo o f=some r)(k:∀x y,o=some (x,y)→f x y=some r→G):G:=let⟨_,_,h1,h2⟩:=qmw h;k _ _ h1 h2
theorem bi3{α β γ:Type}{o:Option (α×β×γ)}{f:α→β→γ→Option ρ}{G:Prop}(h:qI o f=some r)(k:∀x y z,o=some (x,y,z)→f x y z=some r→G):G:=let⟨_,_,_,h1,h2⟩:=qmv h;k _ _ _ h1 h2
theorem bi4{α0 α1 α2 α3:Type}{o:Option (α0×α1×α2×α3)}{f:α0→α1→α2→α3→Option ρ}{G:Prop}(h:wP o f=some r)(k:∀x0 x1 x2 x3,o=some (x0,x1,x2,x3)→f x0 x1 x2 x3=some r→G):G:=let⟨_,_,_,_,h1,h2⟩:=qmu h;k _ _ _ _ h1 h2
theorem bi5{α0 α1 α2 α3 α4:Type}{o:Option (α0×α1×α2×α3×α4)}{f:α0→α1→α2→α3→α4→Option ρ}{G:Prop}(h:vG o f=some r)(k:∀x0 x1 x2 x3 x4,o=some (x0,x1,x2,x3,x4)→f x0 x1 x2 x3 x4=some r→G):G:=let⟨_,_,_,_,_,h1,h2⟩:=qmt h;k _ _ _ _ _ h1 h2
theorem d0:∀w,Cls w0 own m w→∃u m',Ending.returned v=Ending.returned u∧(u=v∧m'=m)∧Cls w0 own m' w:=fun w hw=>⟨_,_,rfl,⟨rfl,rfl⟩,hw⟩
theorem d0s{M:List As}(is:List Nat)(hn:is.Nodup:=by decide)(hm:is.map (m[·]?)=M.map some:=by exact rfl):∀w,Cls w0 own m w→∃u m',Ending.returned v=Ending.returned u∧(u=v∧m'=M)∧Cls w0 own m' w:=fun w hw=>⟨_,_,rfl,⟨rfl,rfl⟩,hw.s is hn hm⟩
variable{bss:List (List Nat)}{Bs:List (World→Prop)}{listed:Array Bool}{S S':Array Bool→World→Prop}{kk i:Nat}{g g0:Option (Nat×Bool)}{B C':World→Prop}{bs:List Nat}{r':List (List Nat)}{q q':List (World→Prop)}
theorem vE(i:Nat){o:Oper}(hi:ops[i]?=some o)(h:L P ops (KV2 P ops Q S kk (listed.setIfInBounds i true)) n C [o] fs)(hr:Region.ready .any ops listed=[i]:=by kernel_rfl):V2 P ops Q n S listed (kk+1) C fs:=fp hr hi h
theorem vN(i:Nat){gp:Nat→Nat}{l:List α}{u0:α}(bz:List Nat)(ho:ops[i]?=some ⟨some d,.nilCheck x,t,pos,af,g0⟩)(hz:∀(L:Array Bool) w,qJ bz L=true→stC bss Bs D L w→Z w)(hx:val fs x=some (VP gp a))(h:idx l a=some u0)(next:V2 P ops Q n (stC bss Bs D) (listed.setIfInBounds i true) kk C ((d,pt (gp a.toNat) 0)::fs))
  (hb:qlq ops bss bz listed i=true:=by kernel_rfl) (hg:jk ops fs g0=true:=by exact rfl) (hd:Nat.blt d n=true:=by exact rfl):V2 P ops Q n (stC bss Bs D) listed (kk+1) C fs:=ee (cI bz hb ho hz) hg hd hx h next
theorem vQ(i:Nat)(bz:List Nat)(hz:∀(L:Array Bool) w,qJ bz L=true→stC bss Bs D L w→Z w)(ho:ops[i]?=some ⟨some d,op,t,pos,af,g⟩)(hy:Y P op t n fs Z v)(next:V2 P ops Q n (stC bss Bs D) (listed.setIfInBounds i true) kk C ((d,v)::fs))(h:qlq ops bss bz listed i=true:=by kernel_rfl)(hp:xd op=true:=by exact rfl)(hd:Nat.blt d n=true:=by exact rfl)(hg:jk ops fs g=true:=by exact rfl):V2 P ops Q n (stC bss Bs D) listed (kk+1) C fs:=eT (cI bz h ho hz) hg hp hd hy next
theorem vM(i:Nat)(bz:List Nat){o:Option α}{f:α→Option ρ}(V':α→Value)(hz:∀(L:Array Bool) w,qJ bz L=true→stC bss Bs D L w→Z w)(ho:ops[i]?=some ⟨some d,op,t,pos,af,g⟩)(h:qb o f=some r)(hy:∀x,o=some x→Y P op t n fs Z (V' x))(next:∀x,o=some x→f x=some r→V2 P ops Q n (stC bss Bs D) (listed.setIfInBounds i true) kk C ((d,V' x)::fs))(hb:qlq ops bss bz listed i=true:=by kernel_rfl)(hg:jk ops fs g=true:=by exact rfl)(hp:xd op=true:=by exact rfl)(hd:Nat.blt d n=true:=by exact rfl):V2 P ops Q n (stC bss Bs D) listed (kk+1) C fs:=fN h (cI bz hb ho hz) hg hp hd hy next
theorem vR(is:List Nat)(h2:qmM ops n is fs=some fs')(next:V2 P ops Q n (stC bss Bs D) (qkO listed is) kk C fs')(h:okV ops bss listed is=true:=by kernel_rfl):V2 P ops Q n (stC bss Bs D) listed (kk+is.length) C fs:=V2.r is h h2 next
theorem vD(h:E .normal Q n C fs)(hr:(Region.ready .any ops listed).isEmpty=true:=by kernel_rfl):V2 P ops Q n S listed kk C fs:=eV hr h
theorem xV(S':Array Bool→World→Prop)(i:Nat)(hS:∀(L:Array Bool) w,L.getD i false=true→S' L w→S L w)(hc:∀w,C' w→S' listed w)(h:V2 P ops Q n S' listed kk C' fs)(hi:listed.getD i false=true:=by kernel_rfl):E .normal (KV2 P ops Q S kk listed) n C' fs:=eI S' i hi hS hc h
theorem ltV{ops':Array Oper}(S':Array Bool→World→Prop)(i:Nat)(hS:∀(L:Array Bool) w,L.getD i false=true→S' L w→S L w)(hc:∀w,C' w→S' listed w)(h:V2 P ops Q n S' listed kk C' fs)(hi:listed.getD i false=true:=by kernel_rfl):L P ops' (KV2 P ops Q S kk listed) n C' [] fs:=ae (eI S' i hi hS hc h)
theorem sN{L:Array Bool}(h:∀w,C w→B w)(ho:qJ bs L=true:=by kernel_rfl):∀w,C w→stC (bs::r') (B::q) D L w:=Sc.now ho h
theorem sn{L:Array Bool}(ho:qJ bs L=true:=by kernel_rfl):∀w,B w→stC (bs::r') (B::q) D L w:=Sc.now ho fun _ h=>h
theorem sD:∀(L:Array Bool) w,L.getD i false=true→stC [] [] D L w→stC [] [] D L w:=aD fun _ h=>h
theorem sA{L:Array Bool}:∀w,C w→stC [] [] C L w:=aP fun _ h=>h
theorem zF{bz:List Nat}:∀(L:Array Bool) w,qJ bz L=true→stC [] [] D L w→D w:=fd fun _ h=>h
theorem sT{D':World→Prop}(h2:∀(L:Array Bool) w,L.getD i false=true→stC r' q' D' L w→stC r' q D L w):∀(L:Array Bool) w,L.getD i false=true→stC (bs::r') (B::q') D' L w→stC (bs::r') (B::q) D L w:=Sc.stay (fun _ h=>h) h2
end
end Go.S
end
