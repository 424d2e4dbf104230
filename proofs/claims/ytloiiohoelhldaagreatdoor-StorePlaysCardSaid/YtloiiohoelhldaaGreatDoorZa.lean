import Derived.WalkKit
import Derived.KernelRfl
import Derived.Deep.Quiet
import Derived.IntWalk
import Derived.Laws.DeepStrings4
import Derived.Deep.Slices
import Derived.MapKept
import Derived.Maps.AppendAt
import Derived.Lib.AppendZeros
import Derived.ProofKit
import Derived.OpenShut
import Derived.Laws.BytesArg
import Derived.Laws.IdiomStrings
import Derived.OrdersHeld
import Derived.Deep.RegionHeld
import Derived.Deep.RegionHeld3
section
namespace Go.S
abbrev Fr:=List (Nat×Value)
def look:Fr→Nat→Option Value
 | [],_=>none
 | (t,v)::r,k=>match Nat.beq t k with
  | true=>some v
  | false=>look r k
structure Slots(n:Nat)(fs:Fr)(a:Act):Prop where
 defers:a.defers=[]
 size:a.tmps.size=n
 here:∀t v,look fs t=some v→a.tmps[t]?=some v
def val(fs:Fr):Operand→Option Value
 | .tmp t=>look fs t
 | .const v=>some v
 | .global g=>some (.pointer (some ⟨g,0,none⟩))
 | .func f=>some (.func (.func f) #[] #[])
def vals(fs:Fr):List Operand→Option (List Value)
 | []=>some []
 | x::r=>match val fs x with
  | some v=>match vals fs r with
   | some vs=>some (v::vs)
   | none=>none
  | none=>none
theorem Slots.eval{n:Nat}{fs:Fr}{a:Act}(h:Slots n fs a){x:Operand}{v:Value}(hv:val fs x=some v):a.eval x=v:=by
 cases x with
 | tmp t =>
  have:=h.here t v hv
  simp[Act.eval,Array.getD_eq_getD_getElem?,this]
 | _=>simp only[val,Option.some.injEq]at hv;subst hv;rfl
theorem Slots.evals{n:Nat}{fs:Fr}{a:Act}(h:Slots n fs a):∀{xs:List Operand} {vs:List Value},vals fs xs=some vs→xs.map a.eval=vs
 | [],vs,hv=>by simp only[vals,Option.some.injEq]at hv;subst hv;rfl
 | x::r,vs,hv=>by
  simp only[vals]at hv
  cases h1:val fs x with
  | none=>simp[h1]at hv
  | some v =>
   cases h2:vals fs r with
   | none=>simp[h1,h2]at hv
   | some vs' =>
    simp only[h1,h2,Option.some.injEq]at hv
    subst hv
    simp[h.eval h1,h.evals h2]
theorem Slots.put{n:Nat}{fs:Fr}{a:Act}(h:Slots n fs a){d:Nat}(hd:Nat.blt d n=true)(v:Value):Slots n ((d,v)::fs) (a.put (some d) v):=by
 have hd':d<n:=by simpa [Nat.blt_eq]using hd
 refine⟨h.defers,by simp[Act.put,h.size],fun t u hu=>?_⟩
 simp only[look]at hu
 simp only[Act.put]
 cases hb:Nat.beq d t with
 | true =>
  have:d=t:=Nat.eq_of_beq_eq_true hb
  simp only[hb,Option.some.injEq]at hu
  subst this;subst hu
  simp[h.size,hd']
 | false =>
  have hne:d≠t:=Nat.ne_of_beq_eq_false hb
  simp only[hb]at hu
  rw[Array.getElem?_setIfInBounds_ne hne]
  exact h.here t u hu
def Sub:Fr→Fr→Prop
 | [],_=>True
 | (t,v)::r,fs=>look fs t=some v∧Sub r fs
theorem Sub.look{fs:Fr}:∀{gs:Fr},Sub gs fs→∀t v,look gs t=some v→look fs t=some v
 | [],_,t,v,h=>by simp[S.look]at h
 | (t',v')::r,hs,t,v,h=>by
  simp only[S.look]at h
  cases hb:Nat.beq t' t with
  | true =>
   have:t'=t:=Nat.eq_of_beq_eq_true hb
   simp only[hb,Option.some.injEq]at h
   subst this;subst h
   exact hs.1
  | false =>
   simp only[hb]at h
   exact Sub.look hs.2 t v h
theorem Slots.sub{n:Nat}{fs gs:Fr}{a:Act}(h:Slots n fs a)(hs:Sub gs fs):Slots n gs a:=
 ⟨h.defers,h.size,fun t v hv=>h.here t v (hs.look t v hv)⟩
theorem Slots.enter(args:List Value)(n:Nat):∀(fs:Fr),(∀t v,look fs t=some v→(args++List.replicate (n-args.length) undef)[t]?=some v)→args.length≤n →
  Slots n fs { tmps:=args.toArray++Array.replicate (n-args.toArray.size) undef,defers:=[] }:=
 fun fs h hl=>⟨rfl,by simp;omega,fun t v hv=>by
  have:=h t v hv
  simpa [←List.toArray_replicate]using this⟩
def args:Nat→List Value→Fr
 | _,[]=>[]
 | k,v::r=>(k,v)::args (k+1) r
theorem qcB:∀(l:List Value) (k t:Nat) (v:Value),look (args k l) t=some v→k≤t∧l[t-k]?=some v
 | [],k,t,v,h=>by simp[args,look]at h
 | x::r,k,t,v,h=>by
  simp only[args,look]at h
  cases hb:Nat.beq k t with
  | true =>
   have:k=t:=Nat.eq_of_beq_eq_true hb
   subst this
   simp only[hb,Option.some.injEq]at h
   subst h
   simp
  | false =>
   have hne:k≠t:=Nat.ne_of_beq_eq_false hb
   simp only[hb]at h
   obtain⟨h1,h2⟩:=qcB r (k+1) t v h
   refine⟨by omega,?_⟩
   rw[show t-k=(t-(k+1))+1 by omega]
   simpa using h2
def E(e:Exit)(Q:Exit→Act→World→Prop)(n:Nat)(C:World→Prop)(fs:Fr):Prop:=∀a w,Slots n fs a→C w→Q e a w
def W(P:Program)(Q:Exit→Act→World→Prop)(n:Nat)(C:World→Prop)(c:Code)(fs:Fr):Prop:=∀a w,Slots n fs a→C w→c.wp P Q a w
def L(P:Program)(ops:Array Oper)(Q:Exit→Act→World→Prop)(n:Nat)(C:World→Prop)(l:List Oper)(fs:Fr):Prop:=∀a w,Slots n fs a→C w→wpList P ops Q l a w
def U(P:Program)(ops:Array Oper)(Q:Exit→Act→World→Prop)(n:Nat)(C:World→Prop)(l:List Oper)(fs:Fr):Prop:=
 ∀a,Slots n fs a→wpQuiet P ops C (fun a'=>∀w',C w'→Q .normal a' w') l a
section
variable{P:Program}{Q:Exit→Act→World→Prop}{n:Nat}{C:World→Prop}{fs:Fr}
theorem aE{x y:Code}(h:W P (Exit.then (y.wp P Q) Q) n C x fs):W P Q n C (.seq x y) fs:=fun a w hs hc=>wp_seq (h a w hs hc)
theorem aN(h:E .normal Q n C fs):W P Q n C .skip fs:=fun a w hs hc=>wp_skip (h a w hs hc)
theorem cr{id:Nat}(h:E (.exit id) Q n C fs):W P Q n C (.exit id) fs:=fun a w hs hc=>wp_exit (h a w hs hc)
theorem bK(h:E .ret Q n C fs):W P Q n C .ret fs:=fun a w hs hc=>wp_ret (h a w hs hc)
theorem W.block{id:Nat}{c:Code}(h:W P (Exit.inBlock id Q) n C c fs):W P Q n C (.block id c) fs:=fun a w hs hc=>wp_block (h a w hs hc)
theorem aX{c:Operand}{x y:Code}(hc:val fs c=some (.bool true))(h:W P Q n C x fs):W P Q n C (.cond c x y) fs:=
 fun a w hs hw=>wp_cond_true (hs.eval hc) (h a w hs hw)
theorem a6{c:Operand}{x y:Code}(hc:val fs c=some (.bool false))(h:W P Q n C y fs):W P Q n C (.cond c x y) fs:=
 fun a w hs hw=>wp_cond_false (hs.eval hc) (h a w hs hw)
theorem ah{id:Nat}{l:List Oper}(h:L P l.toArray Q n C l fs):W P Q n C (.region id l.toArray false) fs:=
 fun a w hs hc=>wp_region_list (by simpa using h a w hs hc)
theorem fO{c:Code}{X:Type}{D:X→World→Prop}(h:∀x,W P Q n (D x) c fs):W P Q n (fun w=>∃x,D x w) c fs:=fun a w hs ⟨x,hx⟩=>h x a w hs hx
theorem fL{c:Code}{p:Prop}{D:World→Prop}(h:p→W P Q n D c fs):W P Q n (fun w=>p∧D w) c fs:=fun a w hs ⟨hp,hx⟩=>h hp a w hs hx
theorem ab{y:Code}(h:W P Q n C y fs):E .normal (Exit.then (y.wp P Q) Q) n C fs:=h
theorem bH{id:Nat}{K:Act→World→Prop}(h:E (.exit id) Q n C fs):E (.exit id) (Exit.then K Q) n C fs:=h
theorem aM{K:Act→World→Prop}(h:E .ret Q n C fs):E .ret (Exit.then K Q) n C fs:=h
theorem aq{id:Nat}(h:E .normal Q n C fs):E .normal (Exit.inBlock id Q) n C fs:=h
theorem ak{id:Nat}(h:E .ret Q n C fs):E .ret (Exit.inBlock id Q) n C fs:=h
theorem bJ{id:Nat}(h:E .normal Q n C fs):E (.exit id) (Exit.inBlock id Q) n C fs:=fun a w hs hc=>by simp only[Exit.inBlock,if_true];exact h a w hs hc
theorem cC{id id':Nat}(hne:Nat.beq id' id=false)(h:E (.exit id') Q n C fs):E (.exit id') (Exit.inBlock id Q) n C fs:=fun a w hs hc=>by
 simp only[Exit.inBlock,Nat.ne_of_beq_eq_false hne,if_false];exact h a w hs hc
theorem fk{c:Code}{X:Type}(F:X→Fr)(D:X→World→Prop)(φ:X→Prop)(μ:X→Nat)(x0:X)(h0:φ x0)(hF:Sub (F x0) fs)(hD:∀w,C w→D x0 w)
  (round:∀x,φ x→W P (Exit.then (fun a w=>∃x',φ x'∧μ x'<μ x∧Slots n (F x') a∧D x' w) Q) n (D x) c (F x)):W P Q n C (.loop c) fs:=by
 intro a w hs hc
 have key:∀k a w,(∃x,φ x∧μ x<k∧Slots n (F x) a∧D x w)→Code.rounds P c Q k a w:=by
  intro k
  induction k with
  | zero=>rintro a w ⟨x,_,hk,_⟩;omega
  | succ k ih =>
   rintro a w ⟨x,hx,hk,hs,hd⟩
   rw[rounds_succ]
   refine Code.wp_mono ?_ (round x hx a w hs hd)
   intro e a' w' hq
   cases e with
   | normal =>
    obtain⟨x',h1,h2,h3,h4⟩:=hq
    exact ih a' w' ⟨x',h1,by omega,h3,h4⟩
   | _=>exact hq
 exact wp_loop_rounds (μ x0+1) (key _ a w ⟨x0,h0,by omega,hs.sub hF,hD w hc⟩)
theorem E.again{X:Type}{F:X→Fr}{D:X→World→Prop}{φ:X→Prop}{μ:X→Nat}{x:X}(x':X)(h1:φ x')(h2:μ x'<μ x)(hF:Sub (F x') fs)(hD:∀w,C w→D x' w) :
  E .normal (Exit.then (fun a w=>∃x',φ x'∧μ x'<μ x∧Slots n (F x') a∧D x' w) Q) n C fs:=
 fun _ w hs hc=>⟨x',h1,h2,hs.sub hF,hD w hc⟩
variable{ops:Array Oper}{rest:List Oper}{d:Nat}{op:Op}{t:TypeId}{pos:String}{af:Array Edge}
theorem ae(h:E .normal Q n C fs):L P ops Q n C [] fs:=h
theorem bo(h:E .normal Q n C fs):U P ops Q n C [] fs:=fun a hs w' hw=>h a w' hs hw
def Y(P:Program)(op:Op)(t:TypeId)(n:Nat)(fs:Fr)(C:World→Prop)(v:Value):Prop:=
 ∀(d:Option Tmp) (pos:String) (af:Array Edge) (g:Option (Nat×Bool)) a w,Slots n fs a→C w→Oper.quietUpon P C w v ((execOp a.eval ⟨d,op,t,pos,af,g⟩).run P w)
theorem Y.wp{v:Value}(hy:Y P op t n fs C v)(o:Option Tmp)(pos:String)(af:Array Edge)(g:Option (Nat×Bool)){a:Act}{w:World}(hs:Slots n fs a)(hc:C w)
  {K:Act→World→Prop} {Q:Exit→Act→World→Prop} (hK:∀w',C w'→K (a.put o v) w'):Oper.wp P ⟨o,op,t,pos,af,g⟩ a w K Q:=by
 have h:=hy o pos af g a w hs hc
 unfold Oper.wp
 cases hr:(execOp a.eval ⟨o,op,t,pos,af,g⟩).run P w with
 | halt x w1=>rw[hr]at h;exact h.elim
 | ok x w1 =>
  rw[hr]at h
  cases x with
  | value u=>obtain⟨rfl,rfl⟩:=h;exact hK _ hc
  | skip=>obtain⟨rfl,rfl⟩:=h;exact hK _ hc
  | enter f args =>
   obtain⟨rfl,hcall⟩:=h
   refine hcall.mono ?_
   rintro e w2 ⟨rfl,hc2⟩
   exact hK _ hc2
  | _=>exact h.elim
theorem fS{v:Value}(hd:Nat.blt d n=true)(hy:Y P op t n fs C v)(k:L P ops Q n C rest ((d,v)::fs)):L P ops Q n C (⟨some d,op,t,pos,af,none⟩::rest) fs:=by
 intro a w hs hc
 simp only[wpList,Region.wanted,if_true]
 exact .inl (hy.wp _ pos af none hs hc fun w' hc'=>k _ w' (hs.put hd v) hc')
theorem fQ{v:Value}(hd:Nat.blt d n=true)(hy:Y P op t n fs C v)(k:U P ops Q n C rest ((d,v)::fs)):U P ops Q n C (⟨some d,op,t,pos,af,none⟩::rest) fs:=by
 intro a hs
 simp only[wpQuiet,Region.wanted,if_true]
 exact⟨v,fun w hc=>hy _ _ _ _ a w hs hc,k _ (hs.put hd v)⟩
theorem eZ{p:Prop}[Decidable p](hd:Nat.blt d n=true)(hy:Y P op t n fs C (.bool (decide p)))(k1:p→L P ops Q n C rest ((d,.bool true)::fs))(k2 : ¬p→L P ops Q n C rest ((d,.bool false)::fs)) :
  L P ops Q n C (⟨some d,op,t,pos,af,none⟩::rest) fs:=by
 by_cases hp:p
 ·exact fS hd (by simpa [hp]using hy) (k1 hp)
 ·exact fS hd (by simpa [hp]using hy) (k2 hp)
theorem eX{p:Prop}[Decidable p](hd:Nat.blt d n=true)(hy:Y P op t n fs C (.bool (decide p)))(k1:p→U P ops Q n C rest ((d,.bool true)::fs))(k2 : ¬p→U P ops Q n C rest ((d,.bool false)::fs)) :
  U P ops Q n C (⟨some d,op,t,pos,af,none⟩::rest) fs:=by
 by_cases hp:p
 ·exact fQ hd (by simpa [hp]using hy) (k1 hp)
 ·exact fQ hd (by simpa [hp]using hy) (k2 hp)
theorem eh{b:Bool}(hd:Nat.blt d n=true)(hy:Y P op t n fs C (.bool b))(k1:b=true→L P ops Q n C rest ((d,.bool true)::fs))(k2:b=false→L P ops Q n C rest ((d,.bool false)::fs)) :
  L P ops Q n C (⟨some d,op,t,pos,af,none⟩::rest) fs:=by
 cases b with
 | true=>exact fS hd hy (k1 rfl)
 | false=>exact fS hd hy (k2 rfl)
theorem ef{b:Bool}(hd:Nat.blt d n=true)(hy:Y P op t n fs C (.bool b))(k1:b=true→U P ops Q n C rest ((d,.bool true)::fs))(k2:b=false→U P ops Q n C rest ((d,.bool false)::fs)) :
  U P ops Q n C (⟨some d,op,t,pos,af,none⟩::rest) fs:=by
 cases b with
 | true=>exact fQ hd hy (k1 rfl)
 | false=>exact fQ hd hy (k2 rfl)
def gd(ops:Array Oper)(fs:Fr)(j:Nat):Option Value:=((ops[j]?).bind (·.dst)).bind (look fs)
theorem qaG{ops:Array Oper}{a:Act}(hs:Slots n fs a){j:Nat}{v:Value}(h:gd ops fs j=some v):((ops[j]?).bind (·.dst)).bind (a.tmps[·]?)=some v:=by
 unfold gd at h
 cases h1:(ops[j]?).bind (·.dst) with
 | none=>simp[h1]at h
 | some t=>simp only[h1,Option.bind_some]at h ⊢;exact hs.here t v h
theorem v7{ops:Array Oper}{a:Act}(hs:Slots n fs a){j:Nat}{b:Bool}(h:gd ops fs j=some (.bool b))(o:Option Tmp):Region.wanted ⟨o,op,t,pos,af,some (j,b)⟩ (yielded ops a.tmps)=true:=by
 simp[Region.wanted,yielded,qaG hs h]
theorem jo{ops:Array Oper}{a:Act}(hs:Slots n fs a){j:Nat}{b:Bool}{v:Value}(h:gd ops fs j=some v)(hne:v≠.bool b)(o:Option Tmp):Region.wanted ⟨o,op,t,pos,af,some (j,b)⟩ (yielded ops a.tmps)=false:=by
 simp only[Region.wanted,yielded,qaG hs h]
 cases v with
 | bool c=>cases b<;>cases c<;>first|rfl|exact(hne rfl).elim
 | _=>rfl
theorem L.take{j:Nat}{b:Bool}{o:Option Tmp}(hg:gd ops fs j=some (.bool b))(k:L P ops Q n C (⟨o,op,t,pos,af,none⟩::rest) fs):L P ops Q n C (⟨o,op,t,pos,af,some (j,b)⟩::rest) fs:=by
 intro a w hs hc
 have h:=k a w hs hc
 simp only[wpList,Region.wanted,if_true]at h
 simp only[wpList,v7 hs hg,if_true]
 exact h
theorem U.take{j:Nat}{b:Bool}{o:Option Tmp}(hg:gd ops fs j=some (.bool b))(k:U P ops Q n C (⟨o,op,t,pos,af,none⟩::rest) fs):U P ops Q n C (⟨o,op,t,pos,af,some (j,b)⟩::rest) fs:=by
 intro a hs
 have h:=k a hs
 simp only[wpQuiet,Region.wanted,if_true]at h
 simp only[wpQuiet,v7 hs hg,if_true]
 exact h
theorem fI{j:Nat}{b:Bool}{v:Value}(hd:Nat.blt d n=true)(hg:gd ops fs j=some v)(hne:v≠.bool b)(k:L P ops Q n C rest ((d,undef)::fs)):L P ops Q n C (⟨some d,op,t,pos,af,some (j,b)⟩::rest) fs:=by
 intro a w hs hc
 simp only[wpList,jo hs hg hne,Bool.false_eq_true,if_false]
 exact k _ w (hs.put hd _) hc
theorem fH{j:Nat}{b:Bool}{v:Value}(hd:Nat.blt d n=true)(hg:gd ops fs j=some v)(hne:v≠.bool b)(k:U P ops Q n C rest ((d,undef)::fs)):U P ops Q n C (⟨some d,op,t,pos,af,some (j,b)⟩::rest) fs:=by
 intro a hs
 simp only[wpQuiet,jo hs hg hne,Bool.false_eq_true,if_false]
 exact k _ (hs.put hd _)
theorem fc{j:Nat}{b:Bool}{v:Value}(hg:gd ops fs j=some v)(hne:v≠.bool b)(k:L P ops Q n C rest fs):L P ops Q n C (⟨none,op,t,pos,af,some (j,b)⟩::rest) fs:=by
 intro a w hs hc
 simp only[wpList,jo hs hg hne,Bool.false_eq_true,if_false]
 exact k _ w hs hc
theorem fJ{X:Type}{l:List Oper}{D:X→World→Prop}(h:∀x,L P ops Q n (D x) l fs):L P ops Q n (fun w=>∃x,D x w) l fs:=fun a w hs ⟨x,hx⟩=>h x a w hs hx
theorem eR{id:Nat}{l:List Oper}(hm:P.follows .mixedOrders=true)(hB:Region.lexB .any l.toArray=true)(hdrew:∀w,C w→C { w with drawn:=w.drawn+1 })
  (h:U P l.toArray Q n C l fs):W P Q n C (.region id l.toArray true) fs:=
 fun a w hs hc=>wp_region_quiet hm hB (hdrew w hc) (by simpa using h a hs)
theorem body{f:FuncId}{fn:Func}{c:Code}{vs:List Value}{R:Ending→World→Prop}{w:World}{C:World→Prop}
  (hf:P.funcs[f]?=some fn) (hb:fn.body=some c) (hn:fn.ntmps=n) (hl:Nat.ble vs.length n=true) (hc:C w) (h:W P (bodyPost P fn R) n C c (args 0 vs)):Calls P f vs.toArray w R:=by
 have hl':vs.length≤n:=by simpa using hl
 refine calls_of_wp hf hb ?_
 subst hn
 refine h _ w (Slots.enter vs _ _ (fun t v hv=>?_) hl') hc
 obtain⟨_,h2⟩:=qcB vs 0 t v hv
 simp only[Nat.sub_zero]at h2
 have:t<vs.length:=(List.getElem?_eq_some_iff.1 h2).1
 rw[List.getElem?_append_left this]
 exact h2
theorem bb{fn:Func}{R:Ending→World→Prop}{t:Tmp}{v:Value}(hr:fn.results=#[.tmp t])(hv:look fs t=some v)(h:∀w,C w→R (.returned v) w):E .ret (bodyPost P fn R) n C fs:=by
 intro a w hs hc
 refine bodyPost_ret (results_tmp hr _ _ _) hs.defers ?_
 have:=hs.here t v hv
 simpa [Array.getD_eq_getD_getElem?,this]using h w hc
theorem dW{fn:Func}{R:Ending→World→Prop}{t u:Tmp}{v x:Value}(hr:fn.results=#[.tmp t,.tmp u])(hv:look fs t=some v)(hx:look fs u=some x)(h:∀w,C w→R (.returned (.tuple #[v,x])) w) :
  E .ret (bodyPost P fn R) n C fs:=by
 intro a w hs hc
 refine bodyPost_ret (results_tmp2 hr _ _ _) hs.defers ?_
 have h1:=hs.here t v hv
 have h2:=hs.here u x hx
 simpa [Array.getD_eq_getD_getElem?,h1,h2]using h w hc
theorem fv{fn:Func}{R:Ending→World→Prop}{t u s:Tmp}{v x y:Value}(hr:fn.results=#[.tmp t,.tmp u,.tmp s])(hv:look fs t=some v)(hx:look fs u=some x)(hy:look fs s=some y)
  (h:∀w,C w→R (.returned (.tuple #[v,x,y])) w):E .ret (bodyPost P fn R) n C fs:=by
 intro a w hs hc
 refine bodyPost_ret (results_tmp3 hr _ _ _) hs.defers ?_
 have h1:=hs.here t v hv
 have h2:=hs.here u x hx
 have h3:=hs.here s y hy
 simpa [Array.getD_eq_getD_getElem?,h1,h2,h3]using h w hc
theorem cN{fn:Func}{R:Ending→World→Prop}(hr:fn.results=#[])(h:∀w,C w→R (.returned (.tuple #[])) w):E .normal (bodyPost P fn R) n C fs:=by
 intro a w hs hc
 exact bodyPost_end (results_none hr _ _ _) hs.defers (h w hc)
end
end Go.S
end
section
namespace Go.S
variable{P:Program}{n:Nat}{C:World→Prop}{fs:Fr}{t:TypeId}
theorem bE{op:Op}{v:Value}(h:∀(d:Option Tmp) (pos:String) (af:Array Edge) (g:Option (Nat×Bool)) a w,Slots n fs a→C w→(execOp a.eval ⟨d,op,t,pos,af,g⟩).run P w=.ok (.value v) w):Y P op t n fs C v:=by
 intro d pos af g a w hs hc
 rw[h d pos af g a w hs hc]
 exact⟨rfl,rfl⟩
theorem bv{x:Operand}{v:Value}(hx:val fs x=some v):Y P (.move x) t n fs C v:=
 bE fun d pos af g a w hs hc=>by simp[execOp,hs.eval hx]
theorem eb{x:Operand}{v:Value}(hx:val fs x=some v):Y P (.assign x) t n fs C v:=
 bE fun d pos af g a w hs hc=>by simp[execOp,hs.eval hx]
theorem eJ{c x y:Operand}{v:Value}(hc:val fs c=some (.bool true))(hx:val fs x=some v):Y P (.pick c x y) t n fs C v:=
 bE fun d pos af g a w hs hw=>by simp only[execOp,hs.eval hx,hs.eval hc];simp[asBool]
theorem eK{c x y:Operand}{v:Value}(hc:val fs c=some (.bool false))(hy:val fs y=some v):Y P (.pick c x y) t n fs C v:=
 bE fun d pos af g a w hs hw=>by simp only[execOp,hs.eval hy,hs.eval hc];simp[asBool]
section ints
variable{x y:Operand}{k:IntKind}{a b:Int}{tx ty:TypeId}
theorem dE(hx:val fs x=some (.int k a))(hy:val fs y=some (.int k b)):Y P (.binOp .lss tx x y ty) t n fs C (.bool (decide (a<b))):=
 bE fun d pos af g s w hs hw=>by simp only[execOp,hs.eval hx,hs.eval hy];simp[go_sem]
theorem cy(hx:val fs x=some (.int k a))(hy:val fs y=some (.int k b)):Y P (.binOp .leq tx x y ty) t n fs C (.bool (decide (a≤b))):=
 bE fun d pos af g s w hs hw=>by simp only[execOp,hs.eval hx,hs.eval hy];simp[go_sem]
theorem dx(hx:val fs x=some (.int k a))(hy:val fs y=some (.int k b)):Y P (.binOp .gtr tx x y ty) t n fs C (.bool (decide (b<a))):=
 bE fun d pos af g s w hs hw=>by simp only[execOp,hs.eval hx,hs.eval hy];simp[go_sem]
theorem bU(hx:val fs x=some (.int k a))(hy:val fs y=some (.int k b)):Y P (.binOp .geq tx x y ty) t n fs C (.bool (decide (b≤a))):=
 bE fun d pos af g s w hs hw=>by simp only[execOp,hs.eval hx,hs.eval hy];simp[go_sem]
theorem dy(hx:val fs x=some (.int k a))(hy:val fs y=some (.int k b)):Y P (.binOp .eql tx x y ty) t n fs C (.bool (decide (a=b))):=
 bE fun d pos af g s w hs hw=>by
  have:(a == b)=decide (a=b):=by by_cases h:a=b<;>simp[h]
  simp only[execOp,hs.eval hx,hs.eval hy];simp[go_sem,this]
theorem d5(hx:val fs x=some (.int k a))(hy:val fs y=some (.int k b)):Y P (.binOp .neq tx x y ty) t n fs C (.bool (decide (a≠b))):=
 bE fun d pos af g s w hs hw=>by
  have:(a != b)=decide (a≠b):=by by_cases h:a=b<;>simp[h]
  simp only[execOp,hs.eval hx,hs.eval hy];simp[go_sem,this]
theorem Y.add(hx:val fs x=some (.int k a))(hy:val fs y=some (.int k b))(hw:k.wrap (a+b)=a+b):Y P (.binOp .add tx x y ty) t n fs C (.int k (a+b)):=
 bE fun d pos af g s w hs _=>by simp only[execOp,hs.eval hx,hs.eval hy];simp[go_sem,hw]
theorem Y.sub(hx:val fs x=some (.int k a))(hy:val fs y=some (.int k b))(hw:k.wrap (a-b)=a-b):Y P (.binOp .sub tx x y ty) t n fs C (.int k (a-b)):=
 bE fun d pos af g s w hs _=>by simp only[execOp,hs.eval hx,hs.eval hy];simp[go_sem,hw]
theorem fB(hx:val fs x=some (.int k a))(hy:val fs y=some (.int k b))(hw:k.wrap (a*b)=a*b):Y P (.binOp .mul tx x y ty) t n fs C (.int k (a*b)):=
 bE fun d pos af g s w hs _=>by simp only[execOp,hs.eval hx,hs.eval hy];simp[go_sem,hw]
theorem bX(hx:val fs x=some (.int k a))(hy:val fs y=some (.int k b)):Y P (.binOp .add tx x y ty) t n fs C (.int k (k.wrap (a+b))):=
 bE fun d pos af g s w hs _=>by simp only[execOp,hs.eval hx,hs.eval hy];simp[go_sem]
theorem cR(hx:val fs x=some (.int k a))(hy:val fs y=some (.int k b)):Y P (.binOp .mul tx x y ty) t n fs C (.int k (k.wrap (a*b))):=
 bE fun d pos af g s w hs _=>by simp only[execOp,hs.eval hx,hs.eval hy];simp[go_sem]
theorem i64_in{a:Int}(h0 : -9223372036854775808≤a)(h1:a≤9223372036854775807):IntKind.i64.wrap a=a:=IntWalk.i64_in a ⟨h0,h1⟩
theorem fe(hx:val fs x=some (.int k a))(hy:val fs y=some (.int k b))(hb:b≠0):Y P (.binOp .rem tx x y ty) t n fs C (.int k (a.tmod b)):=
 bE fun d pos af g s w hs _=>by simp only[execOp,hs.eval hx,hs.eval hy];simp[go_sem,hb]
theorem Y.bits{o:BinOp}(ho:o=.and∨o=.or∨o=.xor∨o=.andNot)(hx:val fs x=some (.int k a))(hy:val fs y=some (.int k b)):Y P (.binOp o tx x y ty) t n fs C (.int k (Go.bits o k a b)):=
 bE fun d pos af g s w hs _=>by rcases ho with rfl|rfl|rfl|rfl<;>(simp only[execOp,hs.eval hx,hs.eval hy];simp[go_sem])
theorem fx{yk:IntKind}(hx:val fs x=some (.int k a))(hy:val fs y=some (.int yk b))(h0:0≤b)(h1:b≤k.bits):Y P (.binOp .shr tx x y ty) t n fs C (.int k (a/2 ^ b.toNat)):=
 bE fun d pos af g s w hs _=>by simp only[execOp,hs.eval hx,hs.eval hy];simp[binOp_shr,shift_shr k yk a b h0 h1,eqGuard_shr]
theorem fy{yk:IntKind}(hx:val fs x=some (.int k a))(hy:val fs y=some (.int yk b))(h0:0≤b)(h1:b≤k.bits):Y P (.binOp .shl tx x y ty) t n fs C (.int k (k.wrap (a*2 ^ b.toNat))):=
 bE fun d pos af g s w hs _=>by simp only[execOp,hs.eval hx,hs.eval hy];simp[binOp_shl,shift_shl k yk a b h0 h1,eqGuard_shl]
theorem fC(hx:val fs x=some (.int k a)):Y P (.unOp .xor tx x) t n fs C (.int k (Go.bits BinOp.xor k (if k.signed=true then -1 else k.max) a)):=
 bE fun d pos af g s w hs _=>by simp only[execOp,hs.eval hx];simp[go_sem]
theorem fg(hx:val fs x=some (.int k a)):Y P (.unOp .neg tx x) t n fs C (.int k (k.wrap (-a))):=
 bE fun d pos af g s w hs _=>by simp only[execOp,hs.eval hx];simp[go_sem]
theorem dD{ts:Array TypeId}(hx:val fs x=some (.int k a))(hy:val fs y=some (.int k b)):Y P (.call ⟨.builtin .max,#[x,y],ts⟩) t n fs C (.int k (max a b)):=
 bE fun d pos af g s w hs _=>by
  have:(if b>a then b else a)=max a b:=by omega
  simp only[execOp,resolve,List.map_toArray,List.map_cons,List.map_nil,hs.eval hx,hs.eval hy];simp[invoke,builtin,run_max_int2,this]
theorem dg{ts:Array TypeId}(hx:val fs x=some (.int k a))(hy:val fs y=some (.int k b)):Y P (.call ⟨.builtin .min,#[x,y],ts⟩) t n fs C (.int k (min a b)):=
 bE fun d pos af g s w hs _=>by
  have:(if b<a then b else a)=min a b:=by omega
  simp only[execOp,resolve,List.map_toArray,List.map_cons,List.map_nil,hs.eval hx,hs.eval hy];simp[invoke,builtin,run_min_int2,this]
end ints
theorem bf{x:Operand}{b:Bool}{tx:TypeId}(hx:val fs x=some (.bool b)):Y P (.unOp .not tx x) t n fs C (.bool (!b)):=
 bE fun d pos af g s w hs hw=>by simp only[execOp,hs.eval hx];simp[go_sem]
def st(l:List UInt8):Value:=.string ⟨l.toArray⟩
theorem jp(l:List UInt8):(ByteArray.mk l.toArray).size=l.length:=by simp[ByteArray.size]
theorem bO{x y:Operand}{a b:List UInt8}{tx ty:TypeId}(hx:val fs x=some (st a))(hy:val fs y=some (st b)):Y P (.binOp .eql tx x y ty) t n fs C (.bool (decide (a=b))):=
 bE fun d pos af g s w hs hw=>by
  have:(a == b)=decide (a=b):=by by_cases h:a=b<;>simp[h]
  simp only[execOp,hs.eval hx,hs.eval hy,st];simp[binOp_string_eql,eqGuard_at_string,this]
theorem bN{x y:Operand}{a b:List UInt8}{tx ty:TypeId}(hx:val fs x=some (st a))(hy:val fs y=some (st b)):Y P (.binOp .neq tx x y ty) t n fs C (.bool (decide (a≠b))):=
 bE fun d pos af g s w hs hw=>by
  have:(!(a == b))=decide (a≠b):=by by_cases h:a=b<;>simp[h]
  simp only[execOp,hs.eval hx,hs.eval hy,st];simp[binOp_string_neq,eqGuard_at_string,this]
theorem fD{x y:Operand}{a b:List UInt8}{tx ty:TypeId}(hx:val fs x=some (st a))(hy:val fs y=some (st b))(hl:a.length+b.length≤9223372036854775807):Y P (.binOp .add tx x y ty) t n fs C (st (a++b)):=
 bE fun d pos af g s w hs hw=>by
  have h:=run_string_add_sum (P:=P) (w:=w) ⟨a.toArray⟩ ⟨b.toArray⟩ (by simpa [jp]using hl)
  have e:(ByteArray.mk a.toArray++ByteArray.mk b.toArray)=ByteArray.mk (a++b).toArray:=by
   apply ByteArray.ext;simp[ByteArray.data_append]
  rw[e]at h
  have hb:binOp .add tx (.string ⟨a.toArray⟩) (.string ⟨b.toArray⟩)=Op.stringOp .add ⟨a.toArray⟩ ⟨b.toArray⟩:=by simp[binOp]
  simp only[execOp,hs.eval hx,hs.eval hy,st,hb];simp[eqGuard_add,h]
theorem aK{x:Operand}{a:List UInt8}{tx:TypeId}(hu:P.underlying tx=some .string)(hx:val fs x=some (st a)):Y P (.call ⟨.builtin .len,#[x],#[tx]⟩) t n fs C (.int .i64 a.length):=
 bE fun d pos af g s w hs hw=>by
  simp only[execOp,resolve,List.map_toArray,List.map_cons,List.map_nil,hs.eval hx,st]
  simp[invoke,builtin,Builtin.len_,run_underlying hu,goInt,jp]
theorem d7{x y:Operand}{a:List UInt8}{b:UInt8}{k:IntKind}{z:Int}{tx:TypeId}(hu:P.underlying tx=some .string)(hx:val fs x=some (st a))(hy:val fs y=some (.int k z))(h0:0≤z)(hb:a[z.toNat]?=some b) :
  Y P (.index tx x y) t n fs C (.int .u8 b.toNat):=
 bE fun d pos af g s w hs hw=>by
  obtain⟨hl,hb'⟩:=List.getElem?_eq_some_iff.1 hb
  have h2:(ByteArray.mk a.toArray)[z.toNat]?=some b:=by
   have:z.toNat<(ByteArray.mk a.toArray).size:=by rw[jp];exact hl
   rw[getElem?_pos (ByteArray.mk a.toArray) z.toNat this]
   exact congrArg some (show a.toArray[z.toNat]'(by simpa using hl)=b by simpa using hb')
  simp only[execOp,hs.eval hx,hs.eval hy,st]
  simp[Instr.index,run_underlying hu,asIntOf,h0,h2]
theorem wb(a:List UInt8)(i j:Nat):(ByteArray.mk a.toArray).extract i j=ByteArray.mk ((a.take j).drop i).toArray:=by
 apply ByteArray.ext
 simp only[ByteArray.data_extract,List.extract_toArray,List.extract_eq_take_drop]
 rw[List.drop_take]
theorem dB{x y z:Operand}{a:List UInt8}{k k':IntKind}{i j:Int}{tx:TypeId}(hu:P.underlying tx=some .string)(hx:val fs x=some (st a))(hy:val fs y=some (.int k i))(hz:val fs z=some (.int k' j))(h0:0≤i)(h1:i≤j)
  (h2:j≤a.length):Y P (.slice tx x (some y) (some z) none) t n fs C (st ((a.take j.toNat).drop i.toNat)):=
 bE fun d pos af g s w hs hw=>by
  have h:=run_slice_string_if (P:=P) w tx ⟨a.toArray⟩ k k' i j hu
  rw[if_pos ⟨by omega,by rw[jp];exact h2⟩,if_pos ⟨h0,h1⟩,wb]at h
  simp only[execOp,hs.eval hx,hs.eval hy,hs.eval hz,st,Option.map_some,Option.map_none]
  simp[run_sliceAt_string w tx _ _ _ _ hu,h]
theorem dZ{x z:Operand}{a:List UInt8}{k':IntKind}{j:Int}{tx:TypeId}(hu:P.underlying tx=some .string)(hx:val fs x=some (st a))(hz:val fs z=some (.int k' j))(h0:0≤j)
  (h2:j≤a.length):Y P (.slice tx x none (some z) none) t n fs C (st (a.take j.toNat)):=
 bE fun d pos af g s w hs hw=>by
  have h:=run_slice_string_h (P:=P) w tx ⟨a.toArray⟩ hu k' j h0 (by rw[jp];exact h2)
  rw[wb,List.drop_zero]at h
  simp only[execOp,hs.eval hx,hs.eval hz,st,Option.map_some,Option.map_none]
  simp[run_sliceAt_string w tx _ _ _ _ hu,h]
theorem dY{x y:Operand}{a:List UInt8}{k:IntKind}{i:Int}{tx:TypeId}(hu:P.underlying tx=some .string)(hx:val fs x=some (st a))(hy:val fs y=some (.int k i))(h0:0≤i)
  (h1:i≤a.length):Y P (.slice tx x (some y) none none) t n fs C (st (a.drop i.toNat)):=
 bE fun d pos af g s w hs hw=>by
  have h:=run_slice_string_l (P:=P) w tx ⟨a.toArray⟩ hu k i h0 (by rw[jp];exact h1)
  rw[wb,jp,List.take_length]at h
  simp only[execOp,hs.eval hx,hs.eval hy,st,Option.map_some,Option.map_none]
  simp[run_sliceAt_string w tx _ _ _ _ hu,h]
theorem a7{x:Operand}{src dst:TypeId}{k k':IntKind}{a:Int}{ds:TypeDesc}(hs':P.underlying src=some ds)(hd:P.underlying dst=some (.int k'))(hx:val fs x=some (.int k a)):Y P (.convert src dst x) t n fs C (.int k' (k'.wrap a)):=
 bE fun d pos af g s w hs hw=>by
  simp only[execOp,hs.eval hx]
  simp[convert,run_underlying hs',run_underlying hd,Conv.intToInt]
theorem Y.extract{x:Operand}{vs:List Value}{i:Nat}{v:Value}(hx:val fs x=some (.tuple vs.toArray))(hi:vs[i]?=some v):Y P (.extract x i) t n fs C v:=
 bE fun d pos af g s w hs hw=>by simp only[execOp,hs.eval hx];simp[Instr.extract,hi]
end Go.S
end
section
namespace Go.S
def adr:Value→Addr
 | .slice (some a) _ _=>a
 | _=>⟨0,0,none⟩
def el(v:Value)(off:Nat):Value:=.pointer (some ((adr v).add off))
structure At(w:World)(v:Value)(k:Nat)(rows:List (List Value)):Prop where
 shape:(v=.slice none 0 0∧rows=[])∨∃a cap,v=.slice (some a) rows.length cap∧rows.length≤cap∧cap≤maxLen
 len:∀r∈rows,r.length=k
 cell:∀i r j x,rows[i]?=some r→r[j]?=some x→w.cell? ((adr v).add (i*k+j))=some x
structure Sd where
 v:Value
 e:TypeId
 k:Nat
 rows:List (List Value)
def Sd.foot(d:Sd):List Nat:=d.v.ownBlock.toList
def qa3(w:World)(v:Value)(e:TypeId)(k:Nat)(rows:List (List Value)):Prop:=(∀r∈rows,r.length=k)∧w.ownsRow 0 e k v rows.length rows.flatten
def kvp(p:Int×Value):Value×Value:=(.int .i64 p.1,p.2)
structure Ob where
 b:Nat
 c:List Value
 e:TypeId
structure Res where
 foot:List Nat
 holds:World→Prop
 congr:∀{w w':World},holds w→(∀b∈foot,w'.heap[b]?=w.heap[b]?)→holds w'
 lt:∀{w:World},holds w→∀b∈foot,b<w.heap.size
inductive As where
 | obj (b:Nat) (c:List Value) (e:TypeId)
 | sl (v:Value) (e:TypeId) (k:Nat) (rows:List (List Value))
 | rd (v:Value) (k:Nat) (rows:List (List Value))
 | mp (b:Nat) (l:List (Int×Value))
 | mi (b r:Nat) (l left:List (Int×Value)) (cur:Option (Int×Value))
 | ss (l:List Sd)
 | os (l:List Ob)
 | tl (v:Value) (e:TypeId) (k:Nat) (rows:List (List Value))
 | mq (b:Nat) (l:List (Value×Value))
 | mqi (b r:Nat) (l left:List (Value×Value)) (cur:Option (Value×Value))
 | any (z:Res)
def tlHolds(w:World)(v:Value)(e:TypeId)(k:Nat)(rows:List (List Value)):Prop:=(∀r∈rows,r.length=k)∧((v=.slice none 0 0∧rows=[]) ∨
 ∃g off cap cur,v=.slice (some ⟨g,off,none⟩) rows.length cap∧w.heap[g]?=some (.cells cur e (0,0))∧rows.length≤cap∧cap≤maxLen∧off+cap*k≤cur.size∧(cur.toList.drop off).take (rows.length*k)=rows.flatten)
def As.foot:As→List Nat
 | .obj b _ _=>[b]
 | .sl v _ _ _=>v.ownBlock.toList
 | .rd v _ _=>v.ownBlock.toList
 | .mp b _=>[b]
 | .mi b r _ _ _=>[b,r]
 | .ss l=>l.flatMap Sd.foot
 | .os l=>l.map Ob.b
 | .tl v _ _ _=>v.ownBlock.toList
 | .mq b _=>[b]
 | .mqi b r _ _ _=>[b,r]
 | .any z=>z.foot
def As.holds(w:World):As→Prop
 | .obj b c e=>w.heap[b]?=some (.cells c.toArray e (0,0))
 | .sl v e k rows=>(∀r∈rows,r.length=k)∧w.ownsRow 0 e k v rows.length rows.flatten
 | .rd v k rows=>At w v k rows∧(v=.slice none 0 0∨∃g n c,v=.slice (some ⟨g,0,none⟩) n c∧g<w.heap.size)
 | .mp b l=>∃es clock,w.heap[b]?=some (.map es clock)∧MapKept.Stamped es clock∧es.toList.map (fun e=>(e.key,e.val))=l.map kvp
 | .mi b r l left cur=>∃es clock since last seen,w.heap[b]?=some (.map es clock)∧MapKept.Stamped es clock∧es.toList.map (fun e=>(e.key,e.val))=l.map kvp∧w.heap[r]?=some (.mapIter (some b) since seen last) ∧
  (∀e∈es.toList,e.born<since)∧since≤last∧since≤clock∧(es.toList.filter fun e=>!seen.contains e.born).map (fun e=>(e.key,e.val))=left.map kvp∧∀p,cur=some p→last=clock∧∃e∈es.toList,(e.key,e.val)=kvp p∧seen.back?=some e.born
 | .ss l=>∀d∈l,qa3 w d.v d.e d.k d.rows
 | .os l=>∀o∈l,w.heap[o.b]?=some (.cells o.c.toArray o.e (0,0))
 | .tl v e k rows=>tlHolds w v e k rows
 | .mq b l=>∃es clock,w.heap[b]?=some (.map es clock)∧MapKept.Stamped es clock∧es.toList.map (fun e=>(e.key,e.val))=l
 | .mqi b r l left cur=>∃es clock since last seen,w.heap[b]?=some (.map es clock)∧MapKept.Stamped es clock∧es.toList.map (fun e=>(e.key,e.val))=l∧w.heap[r]?=some (.mapIter (some b) since seen last) ∧
  (∀e∈es.toList,e.born<since)∧since≤last∧since≤clock∧(es.toList.filter fun e=>!seen.contains e.born).map (fun e=>(e.key,e.val))=left∧∀p,cur=some p→last=clock∧∃e∈es.toList,(e.key,e.val)=p∧seen.back?=some e.born
 | .any z=>z.holds w
theorem qa2{w w':World}{v:Value}{e:TypeId}{k:Nat}{rows:List (List Value)}(h:qa3 w v e k rows)(hb:∀b∈v.ownBlock.toList,w'.heap[b]?=w.heap[b]?):qa3 w' v e k rows:=by
 obtain⟨h1,h2,h3⟩:=h
 refine⟨h1,h2,?_⟩
 rcases h3 with h3|⟨g,cap,cur,rfl,hg,hh,r⟩
 ·exact .inl h3
 ·exact .inr ⟨g,cap,cur,rfl,hg,by rw[hb g (by simp[Value.ownBlock])];exact hh,r⟩
theorem As.holds_congr{w w':World}{x:As}(h:x.holds w)(hb:∀b∈x.foot,w'.heap[b]?=w.heap[b]?):x.holds w':=by
 cases x with
 | obj b c e=>simp only[As.holds]at h ⊢;rw[hb b (by simp[As.foot])];exact h
 | sl v e k rows =>
  obtain⟨h1,h2,h3⟩:=h
  refine⟨h1,h2,?_⟩
  rcases h3 with h3|⟨g,cap,cur,rfl,hg,hh,r⟩
  ·exact .inl h3
  ·exact .inr ⟨g,cap,cur,rfl,hg,by rw[hb g (by simp[As.foot,Value.ownBlock])];exact hh,r⟩
 | rd v k rows =>
  obtain⟨hA,hv⟩:=h
  rcases hv with rfl|⟨g,n,c,rfl,hg⟩
  ·refine⟨⟨hA.shape,hA.len,fun i r j x h1 h2=>?_⟩,.inl rfl⟩
   rcases hA.shape with⟨_,h0⟩|⟨a,cap,h0,_⟩
   ·rw[h0]at h1;simp at h1
   ·cases h0
  ·have hbl:w'.heap[g]?=w.heap[g]?:=hb g (by simp[As.foot,Value.ownBlock])
   refine⟨⟨hA.shape,hA.len,fun i r j x h1 h2=>?_⟩,.inr ⟨g,n,c,rfl,?_⟩⟩
   ·have hx:=hA.cell i r j x h1 h2
    have hblk:((adr (.slice (some ⟨g,0,none⟩) n c)).add (i*k+j)).block=g:=by
     simp only[adr];unfold Addr.add;split<;>rfl
    rw[World.cell?_of_block (w:=w)]
    ·exact hx
    ·rw[hblk];exact hbl
   ·obtain⟨o,ho⟩:∃o,w.heap[g]?=some o:=⟨_,Array.getElem?_eq_getElem hg⟩
    rw[ho]at hbl
    exact(Array.getElem?_eq_some_iff.1 hbl).1
 | mp b l =>
  obtain⟨es,clock,h2,h3⟩:=h
  exact⟨es,clock,by rw[hb b (by simp[As.foot])];exact h2,h3⟩
 | mi b r l left cur =>
  obtain⟨es,clock,since,last,seen,h2,h3,h4,h5,h6⟩:=h
  exact⟨es,clock,since,last,seen,by rw[hb b (by simp[As.foot])];exact h2,h3,h4,by rw[hb r (by simp[As.foot])];exact h5,h6⟩
 | ss l =>
  intro d hd
  exact qa2 (h d hd) fun b hbd=>hb b (List.mem_flatMap.2 ⟨d,hd,hbd⟩)
 | os l =>
  intro o ho
  rw[hb o.b (List.mem_map.2 ⟨o,ho,rfl⟩)]
  exact h o ho
 | tl v e k rows =>
  obtain⟨h1,h3⟩:=h
  refine⟨h1,?_⟩
  rcases h3 with h3|⟨g,off,cap,cur,rfl,hg,r⟩
  ·exact .inl h3
  ·exact .inr ⟨g,off,cap,cur,rfl,by rw[hb g (by simp[As.foot,Value.ownBlock])];exact hg,r⟩
 | mq b l =>
  obtain⟨es,clock,h2,h3⟩:=h
  exact⟨es,clock,by rw[hb b (by simp[As.foot])];exact h2,h3⟩
 | mqi b r l left cur =>
  obtain⟨es,clock,since,last,seen,h2,h3,h4,h5,h6⟩:=h
  exact⟨es,clock,since,last,seen,by rw[hb b (by simp[As.foot])];exact h2,h3,h4,by rw[hb r (by simp[As.foot])];exact h5,h6⟩
 | any z=>exact z.congr h hb
theorem As.holds_lt{w:World}{x:As}(h:x.holds w):∀b∈x.foot,b<w.heap.size:=by
 intro b hb
 cases x with
 | obj b' c e =>
  simp only[As.foot,List.mem_singleton]at hb
  subst hb
  exact(Array.getElem?_eq_some_iff.1 h).1
 | sl v e k rows =>
  have:=h.2.lt b (by simpa [As.foot]using hb)
  exact this.2
 | rd v k rows =>
  obtain⟨hA,hv⟩:=h
  rcases hv with rfl|⟨g,n,c,rfl,hg⟩
  ·simp[As.foot,Value.ownBlock]at hb
  ·simp only[As.foot,Value.ownBlock,Option.toList_some,List.mem_singleton]at hb
   rw[hb];exact hg
 | mp b' l =>
  simp only[As.foot,List.mem_singleton]at hb
  subst hb
  obtain⟨es,clock,h2,_⟩:=h
  exact(Array.getElem?_eq_some_iff.1 h2).1
 | mi b' r l left cur =>
  obtain⟨es,clock,since,last,seen,h2,_,_,h5,_⟩:=h
  simp only[As.foot,List.mem_cons,List.not_mem_nil,or_false]at hb
  rcases hb with rfl|rfl
  ·exact(Array.getElem?_eq_some_iff.1 h2).1
  ·exact(Array.getElem?_eq_some_iff.1 h5).1
 | ss l =>
  obtain⟨d,hd,hbd⟩:=List.mem_flatMap.1 hb
  have:=(h d hd).2.lt b (by simpa [Sd.foot]using hbd)
  exact this.2
 | os l =>
  obtain⟨o,ho,rfl⟩:=List.mem_map.1 hb
  exact(Array.getElem?_eq_some_iff.1 (h o ho)).1
 | tl v e k rows =>
  obtain⟨_,h3⟩:=h
  rcases h3 with⟨rfl,_⟩|⟨g,off,cap,cur,rfl,hg,r⟩
  ·simp[As.foot,Value.ownBlock]at hb
  ·simp only[As.foot,Value.ownBlock,Option.toList_some,List.mem_singleton]at hb
   rw[hb];exact(Array.getElem?_eq_some_iff.1 hg).1
 | mq b' l =>
  simp only[As.foot,List.mem_singleton]at hb
  subst hb
  obtain⟨es,clock,h2,_⟩:=h
  exact(Array.getElem?_eq_some_iff.1 h2).1
 | mqi b' r l left cur =>
  obtain⟨es,clock,since,last,seen,h2,_,_,h5,_⟩:=h
  simp only[As.foot,List.mem_cons,List.not_mem_nil,or_false]at hb
  rcases hb with rfl|rfl
  ·exact(Array.getElem?_eq_some_iff.1 h2).1
  ·exact(Array.getElem?_eq_some_iff.1 h5).1
 | any z=>exact z.lt h b hb
theorem qcG{m m':List As}(hs:m'.Sublist m):(m'.flatMap As.foot).Sublist (m.flatMap As.foot):=by
 induction hs with
 | slnil=>simp
 | cons a _ ih=>simp only[List.flatMap_cons];exact ih.trans (List.sublist_append_right _ _)
 | cons_cons a _ ih=>simp only[List.flatMap_cons];exact List.Sublist.append (List.Sublist.refl _) ih
def EK(d:Nat)(x:Except String (World×List Addr)):Prop:=∀r,x=.ok r→r.1.drawn=d
theorem EK.bind{d:Nat}{α:Type}{x:Except String α}{f:α→Except String (World×List Addr)}(h:∀y,EK d (f y)):EK d (x >>= f):=by
 cases x with
 | error e=>intro r hr;cases hr
 | ok y=>exact h y
theorem EK.err{d:Nat}{e:String}{f:PUnit→Except String (World×List Addr)}:EK d ((MonadExcept.throw e:Except String PUnit) >>= f):=by intro r hr;cases hr
theorem EK.err'{d:Nat}{e:String}:EK d (MonadExcept.throw e:Except String (World×List Addr)):=by intro r hr;cases hr
theorem EK.pure{d:Nat}{w:World}{l:List Addr}(h:w.drawn=d):EK d (pure (w,l)):=by intro r hr;cases hr;exact h
theorem EK.ite{d:Nat}{c:Prop}[Decidable c]{x y:Except String (World×List Addr)}(hx:EK d x)(hy:EK d y):EK d (if c then x else y):=by split<;>assumption
theorem qci{P:Program}{w:World}{a k:Addr}{u:TypeId}{v:Value}{b:Bool}:EK w.drawn (w.viewStore P a u k v b):=by
 unfold World.viewStore
 dsimp only
 repeat' first
  | exact EK.err
  | exact EK.err'
  | exact EK.pure rfl
  | (refine EK.ite ?_ ?_)
  | (refine EK.bind fun _=>?_)
  | split
theorem yb{P:Program}{w w':World}{a k:Addr}{u:TypeId}{v:Value}{b:Bool}{l:List Addr}(h:w.viewStore P a u k v b=.ok (w',l)):w'.drawn=w.drawn:=qci _ h
theorem qam{P:Program}{w w':World}{a:Addr}{v:Value}{b:Bool}{l:List Addr}(h:w.farStore P a v b=.ok (w',l)):w'.drawn=w.drawn:=by
 unfold World.farStore at h
 split at h
 ·split at h
  ·rename_i hr
   cases h
   exact yb hr
  ·cases h
 ·cases h
theorem qac{α:Type}:∀(s:Ask α) (w:World),w.drawn≤(w.ask s).2.drawn
 | .done a,w=>Nat.le_refl _
 | .ask what range k,w=>by
  rw[World.ask]
  split
  ·exact qac (k 0) w
  ·exact Nat.le_trans (Nat.le_succ _) (qac (k _) { w with drawn:=w.drawn+1 })
theorem qgH(w:World)(c:Sys):w.drawn≤(w.sys c).2.drawn:=by
 have h:=qac (Kernel.perform c w.os) w
 unfold World.sys
 split
 ·exact Nat.le_refl _
 ·rename_i he;rw[he]at h;exact h
theorem qy{α:Type}{P:Program}:∀(s:Sem α) (w w':World) (a:α),s.run P w=.ok a w'→w.drawn≤w'.drawn
 | .pure a,w,w',b,h=>by cases h;exact Nat.le_refl _
 | .load m a k,w,w',b,h=>by
  rw[Sem.run]at h
  split at h
  ·exact qy (k _) _ _ _ h
  ·split at h
   ·exact qy (k _) _ _ _ h
   ·cases h
 | .store m a v k,w,w',b,h=>by
  have key:∀v:Value,(match w.cell? a with
    | some _=>if w.frozen? a=true then Result.halt (Halt.unsupported (Unsupported.unsafePointer "a write to bytes that a string shares")) w else Sem.run P k (w.setCell a v)
    | none=>match w.farStore P a v (m == Mode.atomic) with
     | .ok (w1,_)=>Sem.run P k w1
     | .error e=>Result.halt e w)=Result.ok b w'→w.drawn≤w'.drawn:=by
   intro v h
   split at h
   ·split at h
    ·cases h
    ·have h1:=qy k _ _ _ h
     exact h1
   ·split at h
    ·rename_i he
     have h1:=qy k _ _ _ h
     have h2:=qam he
     omega
    ·cases h
  cases v<;>simp only[Sem.run]at h<;>first|(cases h;done)|exact key _ h
 | .new o k,w,w',b,h=>by
  rw[Sem.run]at h
  have h1:=qy (k _) _ _ _ h
  exact h1
 | .shape r k,w,w',b,h=>by rw[Sem.run]at h;exact qy (k _) _ _ _ h
 | .freeze a n k,w,w',b,h=>by
  rw[Sem.run]at h
  have:=qy k _ _ _ h
  unfold World.freeze at this
  split at this<;>exact this
 | .frozen a k,w,w',b,h=>by rw[Sem.run]at h;exact qy (k _) _ _ _ h
 | .getObj r k,w,w',b,h=>by
  rw[Sem.run]at h
  split at h
  ·cases h
  ·exact qy (k _) _ _ _ h
  ·cases h
 | .setObj r o k,w,w',b,h=>by
  rw[Sem.run]at h
  split at h
  ·cases h
  ·have h1:=qy k _ _ _ h
   exact h1
  ·cases h
 | .choose q k,w,w',b,h=>by
  rw[Sem.run]at h
  split at h
  ·exact qy (k _) _ _ _ h
  ·exact Nat.le_trans (Nat.le_succ _) (qy (k _) _ _ _ h)
 | .sys c k,w,w',b,h=>by rw[Sem.run]at h;exact Nat.le_trans (qgH w c) (qy (k _) _ _ _ h)
 | .program k,w,w',b,h=>by rw[Sem.run]at h;exact qy (k _) _ _ _ h
 | .mark _ k,w,w',b,h=>by rw[Sem.run]at h;exact qy k _ _ _ h
 | .halt x,w,w',b,h=>by cases h
theorem qgN{α:Type}{P:Program}(s:Sem α){w w':World}{a:α}(h:s.run P w=.ok a w'):w.drawn≤w'.drawn:=qy s w w' a h
def DR(_ _:World):Prop:=True
theorem DR.of{w w':World}(_:w.drawn≤w'.drawn):DR w w':=trivial
theorem DR.refl(w:World):DR w w:=.of (Nat.le_refl _)
theorem DR.trans{w w' w'':World}(_:DR w w')(_:DR w' w''):DR w w'':=trivial
structure Cls(w0:World)(own:List Nat)(m:List As)(w:World):Prop where
 os:w.os=w0.os
 tape:w.tape=w0.tape
 output:w.output=w0.output
 dr:DR w0 w
 size:w0.heap.size≤w.heap.size
 old:∀k,k<w0.heap.size→k∉own→w.heap[k]?=w0.heap[k]?
 nodup:(m.flatMap As.foot).Nodup
 mine:∀x∈m,x.holds w∧∀b∈x.foot,w0.heap.size≤b∨b∈own
section
variable{w0 w w':World}{own:List Nat}{m m':List As}
theorem Cls.refl(w:World):Cls w [] [] w:=⟨rfl,rfl,rfl,DR.refl _,Nat.le_refl _,fun _ _ _=>rfl,by simp,fun x hx=>by cases hx⟩
theorem Cls.drew(h:Cls w0 own m w):Cls w0 own m { w with drawn:=w.drawn+1 }:=
 ⟨h.os,h.tape,h.output,h.dr.trans (.of (Nat.le_succ _)),h.size,h.old,h.nodup,fun x hx=>⟨As.holds_congr (h.mine x hx).1 (fun _ _=>rfl),(h.mine x hx).2⟩⟩
theorem Cls.below(h:Cls w0 [] m w):RowKit.Below w0.heap.size w0 w:=⟨h.os,h.tape,h.output,h.size,fun k hk=>h.old k hk (by simp)⟩
theorem Cls.sublist(h:Cls w0 own m w)(hs:m'.Sublist m):Cls w0 own m' w:=
 ⟨h.os,h.tape,h.output,h.dr,h.size,h.old,h.nodup.sublist (qcG hs),fun x hx=>h.mine x (hs.subset hx)⟩
theorem Cls.perm(h:Cls w0 own m w)(hs:m'.Perm m):Cls w0 own m' w:=
 ⟨h.os,h.tape,h.output,h.dr,h.size,h.old,(hs.flatMap_right _).nodup_iff.2 h.nodup,fun x hx=>h.mine x (hs.mem_iff.1 hx)⟩
theorem Cls.foot_lt(h:Cls w0 own m w):∀b∈m.flatMap As.foot,b<w.heap.size:=by
 intro b hb
 obtain⟨x,hx,hbx⟩:=List.mem_flatMap.1 hb
 exact As.holds_lt (h.mine x hx).1 b hbx
theorem Cls.get(h:Cls w0 own m w){i:Nat}{x:As}(hi:m[i]?=some x):x.holds w:=(h.mine x (List.mem_of_getElem? hi)).1
theorem Cls.call(h:Cls w0 own m w)(h':Cls w [] m' w'):Cls w0 own (m'++m) w':=by
 refine⟨h'.os.trans h.os,h'.tape.trans h.tape,h'.output.trans h.output,DR.trans h.dr h'.dr,Nat.le_trans h.size h'.size,fun k hk ho=>?_,?_,fun x hx=>?_⟩
 ·rw[h'.old k (Nat.lt_of_lt_of_le hk h.size) (by simp),h.old k hk ho]
 ·rw[List.flatMap_append,List.nodup_append]
  refine⟨h'.nodup,h.nodup,fun a ha b hb heq=>?_⟩
  subst heq
  obtain⟨x,hx,hax⟩:=List.mem_flatMap.1 ha
  rcases(h'.mine x hx).2 a hax with h1|h1
  ·have:=h.foot_lt a hb
   omega
  ·cases h1
 ·rcases List.mem_append.1 hx with hx|hx
  ·refine⟨(h'.mine x hx).1,fun b hb=>?_⟩
   rcases(h'.mine x hx).2 b hb with h1|h1
   ·exact .inl (Nat.le_trans h.size h1)
   ·cases h1
  ·refine⟨As.holds_congr (h.mine x hx).1 fun b hb=>?_,(h.mine x hx).2⟩
   exact h'.old b (As.holds_lt (h.mine x hx).1 b hb) (by simp)
theorem Cls.alloc(h:Cls w0 own m w)(c:List Value)(e:TypeId):Cls w0 own (.obj w.heap.size c e::m) (w.alloc (.cells c.toArray e)):=by
 have hk:∀k,k<w.heap.size→(w.alloc (.cells c.toArray e)).heap[k]?=w.heap[k]?:=fun k hk=>RowKit.Below.heap_alloc w _ k hk
 refine⟨h.os,h.tape,h.output,h.dr,Nat.le_trans h.size (by simp),fun k hk' ho=>?_,?_,fun x hx=>?_⟩
 ·rw[hk k (Nat.lt_of_lt_of_le hk' h.size),h.old k hk' ho]
 ·simp only[List.flatMap_cons,As.foot,List.singleton_append,List.nodup_cons]
  exact⟨fun hb=>Nat.lt_irrefl _ (h.foot_lt _ hb),h.nodup⟩
 ·rcases List.mem_cons.1 hx with rfl|hx
  ·refine⟨?_,fun b hb=>?_⟩
   ·show(w.heap.push _)[w.heap.size]?=_
    simp
   ·simp only[As.foot,List.mem_singleton]at hb
    subst hb
    exact .inl h.size
  ·exact⟨As.holds_congr (h.mine x hx).1 fun b hb=>hk b (As.holds_lt (h.mine x hx).1 b hb),(h.mine x hx).2⟩
theorem Cls.turn(h:Cls w0 own m w){i:Nat}{x y:As}(hi:m[i]?=some x)(hf:y.foot=x.foot)
  (hos:w'.os=w.os) (htape:w'.tape=w.tape) (hout:w'.output=w.output) (hsz:w'.heap.size=w.heap.size) (hdr:w.drawn≤w'.drawn) (hrest:∀k,k∉x.foot→w'.heap[k]?=w.heap[k]?) (hy:y.holds w'):Cls w0 own (m.set i y) w':=by
 obtain⟨hil,hxi⟩:=List.getElem?_eq_some_iff.1 hi
 have hmem:x∈m:=List.mem_of_getElem? hi
 have hfm:(m.set i y).flatMap As.foot=m.flatMap As.foot:=by
  have h1:(m.set i y).map As.foot=m.map As.foot:=by
   rw[List.map_set,hf]
   apply List.ext_getElem?
   intro j
   rw[List.getElem?_set]
   split
   ·rename_i hij
    subst hij
    simp[hil,hxi]
   ·rfl
  rw[List.flatMap_def,h1,←List.flatMap_def]
 have hnd:=h.nodup
 refine⟨hos.trans h.os,htape.trans h.tape,hout.trans h.output,h.dr.trans (.of hdr),hsz▸h.size,fun k hk ho=>?_,by rw[hfm];exact hnd,fun z hz=>?_⟩
 ·rw[hrest k,h.old k hk ho]
  intro hkx
  rcases(h.mine x hmem).2 k hkx with h1|h1
  ·omega
  ·exact ho h1
 ·obtain⟨j,hj⟩:=List.getElem?_of_mem hz
  rw[List.getElem?_set]at hj
  split at hj
  ·rename_i hij
   simp at hj
   subst hj
   exact⟨hy,fun b hb=>(h.mine x hmem).2 b (hf▸hb)⟩
  ·rename_i hij
   have hzm:z∈m:=List.mem_of_getElem? hj
   refine⟨As.holds_congr (h.mine z hzm).1 fun b hb=>hrest b fun hbx=>?_,(h.mine z hzm).2⟩
   obtain⟨hjl,hzj⟩:=List.getElem?_eq_some_iff.1 hj
   have:∀(l:List As) (i j:Nat) (hi:i<l.length) (hj:j<l.length),i<j→(l.flatMap As.foot).Nodup→b∈(l[i]).foot→b∈(l[j]).foot→False:=by
    intro l
    induction l with
    | nil=>intro i j hi;simp at hi
    | cons q l ih =>
     intro i j hi hj hij hn h1 h2
     rw[List.flatMap_cons,List.nodup_append]at hn
     cases i with
     | zero =>
      cases j with
      | zero=>omega
      | succ j =>
       exact hn.2.2 b h1 b (List.mem_flatMap.2 ⟨l[j]'(by simpa using hj),List.getElem_mem _,h2⟩) rfl
     | succ i =>
      cases j with
      | zero=>omega
      | succ j=>exact ih i j (by simpa using hi) (by simpa using hj) (by omega) hn.2.1 h1 h2
   rcases Nat.lt_or_gt_of_ne hij with hlt|hlt
   ·exact this m i j hil hjl hlt hnd (by rw[hxi];exact hbx) (by rw[hzj];exact hb)
   ·exact this m j i hjl hil hlt hnd (by rw[hzj];exact hb) (by rw[hxi];exact hbx)
end
theorem At.nil(w:World)(k:Nat):At w (.slice none 0 0) k []:=⟨.inl ⟨rfl,rfl⟩,by simp,by simp⟩
theorem At.cls{w0 w:World}{own:List Nat}{m:List As}{v:Value}{k:Nat}{rows:List (List Value)}(h:At w0 v k rows)(hc:Cls w0 own m w)(hb:(adr v).block∉own):At w v k rows:=by
 refine⟨h.shape,h.len,fun i r j x h1 h2=>?_⟩
 have hx:=h.cell i r j x h1 h2
 have hblk:((adr v).add (i*k+j)).block=(adr v).block:=by unfold Addr.add;split<;>rfl
 have hlt:=World.block_lt_of_cell? w0 _ hx
 rw[World.cell?_of_block (w:=w0)]
 ·exact hx
 ·exact hc.old _ hlt (by rw[hblk];exact hb)
theorem At.cls0{w0 w:World}{m:List As}{v:Value}{k:Nat}{rows:List (List Value)}(h:At w0 v k rows)(hc:Cls w0 [] m w):At w v k rows:=h.cls hc (by simp)
theorem qR{k:Nat}:∀(rows:List (List Value)) (i j:Nat) (r:List Value) (x:Value),(∀r∈rows,r.length=k)→rows[i]?=some r→r[j]?=some x→rows.flatten[i*k+j]?=some x
 | [],i,j,r,x,_,h,_=>by simp at h
 | q::rows,0,j,r,x,hl,h,hx=>by
  simp only[List.getElem?_cons_zero,Option.some.injEq]at h
  subst h
  simp only[List.flatten_cons,Nat.zero_mul,Nat.zero_add]
  rw[List.getElem?_append_left (List.getElem?_eq_some_iff.1 hx).1]
  exact hx
 | q::rows,i+1,j,r,x,hl,h,hx=>by
  have hq:q.length=k:=hl q (by simp)
  simp only[List.getElem?_cons_succ]at h
  simp only[List.flatten_cons]
  rw[List.getElem?_append_right (by rw[hq,Nat.succ_mul];omega),hq,show(i+1)*k+j-k=i*k+j by rw[Nat.succ_mul];omega]
  exact qR rows i j r x (fun r hr=>hl r (by simp[hr])) h hx
theorem As.at_{w:World}{v:Value}{e:TypeId}{k:Nat}{rows:List (List Value)}(h:(As.sl v e k rows).holds w):At w v k rows:=by
 obtain⟨h1,h2,h3⟩:=h
 refine⟨?_,h1,fun i r j x hr hx=>?_⟩
 ·rcases h3 with⟨rfl,h0⟩|⟨g,cap,cur,rfl,_,_,hn,hc,_⟩
  ·exact .inl ⟨rfl,List.length_eq_zero_iff.1 h0⟩
  ·exact .inr ⟨_,cap,rfl,hn,hc⟩
 ·have hf:=qR rows i j r x h1 hr hx
  rcases h3 with⟨rfl,h0⟩|⟨g,cap,cur,rfl,_,hg,hn,hc,hs,ht⟩
  ·have:=List.length_eq_zero_iff.1 h0
   subst this
   simp at hr
  ·have hj:i*k+j<rows.length*k:=by
    have:=(List.getElem?_eq_some_iff.1 hf).1
    rw[h2]at this
    exact this
   rw[←ht,List.getElem?_take_of_lt hj]at hf
   have e1:(Addr.add ⟨g,0,none⟩ (i*k+j))=⟨g,i*k+j,none⟩:=by simp[Addr.add_lit]
   show(World.cell? w (Addr.add ⟨g,0,none⟩ (i*k+j)))=some x
   rw[e1]
   simp only[World.cell?,hg,Option.isSome_none,Bool.false_eq_true,if_false]
   rw[Array.getElem?_toList]at hf
   exact hf
end Go.S
end
section
namespace Go.S
variable{P:Program}{Q:Exit→Act→World→Prop}{n:Nat}{C:World→Prop}{fs:Fr}{t:TypeId}{ops:Array Oper}{rest:List Oper}{d:Nat}{pos:String}{af:Array Edge}
def szB(P:Program)(t:TypeId)(k:Nat):Bool:=match P.info? t with
 | some i=>Nat.beq i.size k
 | none=>false
def qP(P:Program)(t:TypeId)(b:Bool):Bool:=match P.underlying t,b with
 | some (.struct _),b=>b
 | some (.array _ _),b=>b
 | some _,b=>!b
 | none,_=>false
def qj(P:Program)(s:TypeId)(j fo:Nat):Bool:=match P.underlying s with
 | some (.struct fields)=>match fields[j]? with
  | some f=>Nat.beq f.offset fo&&(match P.info? f.type with|some i=>!(Nat.beq i.size 0)|none=>false)
  | none=>false
 | _=>false
def kn(P:Program)(f:FuncId):Bool:=match P.funcs[f]? with
 | some fn=>!(fn.name == "runtime.NumGoroutine")&&!fn.body.isNone
 | none=>false
theorem qt{k:Nat}(h:szB P t k=true)(w:World):(sizeOf t).run P w=.ok k w:=by
 unfold szB at h
 cases hi:P.info? t with
 | none=>simp[hi]at h
 | some i =>
  simp only[hi]at h
  simp[sizeOf,typeInfo,hi,Nat.eq_of_beq_eq_true h]
theorem jr{b:Bool}(h:qP P t b=true)(w:World):(isAgg t).run P w=.ok b w:=by
 unfold qP at h
 cases hu:P.underlying t with
 | none=>simp[hu]at h
 | some ds =>
  simp only[isAgg,Sem.run_bind,run_underlying hu,Result.andThen]
  cases ds<;>simp_all
theorem qco(ha:qP P t false=true){a:Addr}{w:World}{x:Value}(hc:w.cell? a=some x):(loadVar t a).run P w=.ok x w:=by
 simp[loadVar,jr ha,hc]
theorem wx{k:Nat}(ha:qP P t true=true)(hs:szB P t k=true){a:Addr}{w:World}{vs:List Value}(hk:vs.length=k)(hc:∀j x,vs[j]?=some x→w.cell? (a.add j)=some x):(loadVar t a).run P w=.ok (.agg vs.toArray) w:=by
 subst hk
 simp[loadVar,jr ha,qt hs,run_loadCells_list w a vs hc]
theorem cY{x:Operand}{a:Addr}{v:Value}{te:TypeId}(ha:qP P te false=true)(hx:val fs x=some (.pointer (some a)))(hc:∀w,C w→w.cell? a=some v):Y P (.load te x) t n fs C v:=
 bE fun d pos af g s w hs hw=>by
  simp only[execOp,hs.eval hx]
  simp[Instr.loadAt,Instr.sureAddr,qco ha (hc w hw)]
theorem dH{x:Operand}{a:Addr}{vs:List Value}{te:TypeId}{k:Nat}(ha:qP P te true=true)(hsz:szB P te k=true)(hx:val fs x=some (.pointer (some a)))(hk:vs.length=k)
  (hc:∀w,C w→∀j x,vs[j]?=some x→w.cell? (a.add j)=some x):Y P (.load te x) t n fs C (.agg vs.toArray):=
 bE fun d pos af g s w hs hw=>by
  simp only[execOp,hs.eval hx]
  simp[Instr.loadAt,Instr.sureAddr,wx ha hsz hk (hc w hw)]
theorem cK{x:Operand}{a:Addr}(hx:val fs x=some (.pointer (some a))):Y P (.nilCheck x) t n fs C (.pointer (some a)):=
 bE fun d pos af g s w hs hw=>by
  simp only[execOp,hs.eval hx]
  simp
theorem cM{x:Operand}{a:Addr}{s:TypeId}{j fo:Nat}(hf:qj P s j fo=true)(hx:val fs x=some (.pointer (some a))):Y P (.fieldAddr s x j) t n fs C (.pointer (some (a.add fo))):=
 bE fun d pos af g s' w hs hw=>by
  simp only[execOp,hs.eval hx]
  unfold qj at hf
  cases hu:P.underlying s with
  | none=>simp[hu]at hf
  | some ds =>
   cases ds with
   | struct fields =>
    simp only[hu]at hf
    cases hj:fields[j]? with
    | none=>simp[hj]at hf
    | some f =>
     simp only[hj,Bool.and_eq_true]at hf
     obtain⟨h1,h2⟩:=hf
     cases hi:P.info? f.type with
     | none=>simp[hi]at h2
     | some i =>
      simp only[hi,Bool.not_eq_true']at h2
      have h3:i.size≠0:=Nat.ne_of_beq_eq_false h2
      have h4:f.offset=fo:=Nat.eq_of_beq_eq_true h1
      simp[Instr.fieldAt,run_underlying hu,hj,Instr.sureAddr,fieldPlace,sizeOf,typeInfo,hi,h3,h4]
   | _=>simp[hu]at hf
theorem add_add(a:Addr)(x y:Nat):(a.add x).add y=a.add (x+y):=Go.Deep.add_add a x y
theorem ch{x:Operand}{v:Value}{off:Nat}{s:TypeId}{j fo:Nat}(hf:qj P s j fo=true)(hx:val fs x=some (el v off)):Y P (.fieldAddr s x j) t n fs C (el v (off+fo)):=by
 have:=cM (t:=t) (C:=C) (n:=n) hf (x:=x) (a:=(adr v).add off) hx
 rwa [add_add]at this
def pt(b off:Nat):Value:=.pointer (some ⟨b,off,none⟩)
theorem aa{x:Operand}{b off:Nat}{s:TypeId}{j fo:Nat}(hf:qj P s j fo=true)(hx:val fs x=some (pt b off)):Y P (.fieldAddr s x j) t n fs C (pt b (off+fo)):=by
 have:=cM (t:=t) (C:=C) (n:=n) hf (x:=x) (a:=⟨b,off,none⟩) hx
 rwa [Addr.add_lit]at this
theorem di{x y:Operand}{v:Value}{k:Nat}{rows:List (List Value)}{ik:IntKind}{i:Int}{tx e:TypeId}(hu:P.underlying tx=some (.slice e))(hsz:szB P e k=true)(hx:val fs x=some v)(hy:val fs y=some (.int ik i))
  (hA:∀w,C w→At w v k rows) (h0:0≤i) (h1:i<rows.length):Y P (.indexAddr tx x y) t n fs C (el v (i.toNat*k)):=
 bE fun d pos af g s w hs hw=>by
  simp only[execOp,hs.eval hx,hs.eval hy]
  rcases(hA w hw).shape with⟨rfl,rfl⟩|⟨a,cap,rfl,_,_⟩
  ·simp at h1;omega
  ·have h2:0≤i∧i<(rows.length:Int):=⟨h0,h1⟩
   simp[Instr.indexAt,run_underlying hu,asIntOf,h2,qt hsz,el,adr]
theorem bI{x y:Operand}{b off k len:Nat}{ik:IntKind}{i:Int}{tx e:TypeId}(hu:P.underlying tx=some (.array len e))(hsz:szB P e k=true)(hx:val fs x=some (pt b off))(hy:val fs y=some (.int ik i))
  (h0:0≤i) (h1:i<len):Y P (.indexAddr tx x y) t n fs C (pt b (off+i.toNat*k)):=
 bE fun d pos af g s w hs hw=>by
  simp only[execOp,hs.eval hx,hs.eval hy]
  have h2:0≤i∧i<(len:Int):=⟨h0,h1⟩
  simp[Instr.indexAt,run_underlying hu,asIntOf,h2,qt hsz,pt,Instr.sureAddr,Addr.add_lit]
theorem eD{x:Operand}{v:Value}{k:Nat}{rows:List (List Value)}{tx e:TypeId}(hu:P.underlying tx=some (.slice e))(hx:val fs x=some v)(hA:∀w,C w→At w v k rows):Y P (.call ⟨.builtin .len,#[x],#[tx]⟩) t n fs C (.int .i64 rows.length):=
 bE fun d pos af g s w hs hw=>by
  simp only[execOp,resolve,List.map_toArray,List.map_cons,List.map_nil,hs.eval hx]
  rcases(hA w hw).shape with⟨rfl,rfl⟩|⟨a,cap,rfl,_,_⟩<;>simp[invoke,builtin,Builtin.len_,run_underlying hu,goInt]
theorem wV{f:FuncId}(he:kn P f=true)(args:Array Value)(w:World):(callFunc f args).run P w=.ok (.enter f args) w:=by
 unfold kn at he
 cases hf:P.funcs[f]? with
 | none=>simp[hf]at he
 | some fn =>
  simp only[hf,Bool.and_eq_true,Bool.not_eq_true']at he
  obtain⟨h1,h2⟩:=he
  have h3 : ¬fn.name = "runtime.NumGoroutine":=by simpa using h1
  have h4 : ¬fn.body=none:=by intro h;simp[h]at h2
  simp[callFunc,hf,h3,h4]
theorem Y.call{f:FuncId}{xs:List Operand}{ts:Array TypeId}{vs:List Value}{v:Value}(he:kn P f=true)(hx:vals fs xs=some vs)
  (hc:∀w,C w→Calls P f vs.toArray w fun e w'=>e=.returned v∧C w'):Y P (.call ⟨.value (.func f),xs.toArray,ts⟩) t n fs C v:=by
 intro d pos af g a w hs hw
 have h1:=hs.evals hx
 have:(execOp a.eval ⟨d,.call ⟨.value (.func f),xs.toArray,ts⟩,t,pos,af,g⟩).run P w=.ok (.enter f vs.toArray) w:=by
  simp only[execOp,resolve,List.map_toArray,h1]
  simp[Act.eval,Deferred.ofValue,invoke,wV he]
 rw[this]
 exact⟨rfl,hc w hw⟩
theorem L.call{f:FuncId}{xs:List Operand}{ts:Array TypeId}{vs:List Value}{R:Value→World→Prop}(hd:Nat.blt d n=true)(he:kn P f=true)(hx:vals fs xs=some vs)
  (hc:∀w,C w→Calls P f vs.toArray w fun e w'=>∃v,e=.returned v∧R v w') (k:∀v,L P ops Q n (R v) rest ((d,v)::fs)):L P ops Q n C (⟨some d,.call ⟨.value (.func f),xs.toArray,ts⟩,t,pos,af,none⟩::rest) fs:=by
 intro a w hs hw
 have h1:=hs.evals hx
 have:(execOp a.eval ⟨some d,.call ⟨.value (.func f),xs.toArray,ts⟩,t,pos,af,none⟩).run P w=.ok (.enter f vs.toArray) w:=by
  simp only[execOp,resolve,List.map_toArray,h1]
  simp[Act.eval,Deferred.ofValue,invoke,wV he]
 simp only[wpList,Region.wanted,if_true]
 refine .inl ?_
 unfold Oper.wp
 rw[this]
 refine(hc w hw).mono ?_
 rintro e w' ⟨v,rfl,hv⟩
 exact k v _ w' (hs.put hd v) hv
def Does(P:Program)(f:FuncId)(vs:List Value)(w:World)(R:Value→List As→Prop):Prop:=Calls P f vs.toArray w fun e w'=>∃v m,e=.returned v∧R v m∧Cls w [] m w'
theorem Does.mono{f:FuncId}{vs:List Value}{w:World}{R R':Value→List As→Prop}(h:Does P f vs w R)(hr:∀v m,R v m→R' v m):Does P f vs w R':=
 Calls.mono h fun _ _ ⟨v,m,he,hv,hc⟩=>⟨v,m,he,hr _ _ hv,hc⟩
theorem bZ{f:FuncId}{xs:List Operand}{ts:Array TypeId}{vs:List Value}{R:Value→List As→Prop}{w0:World}{own:List Nat}{m:List As}(hd:Nat.blt d n=true)(he:kn P f=true)(hx:vals fs xs=some vs)
  (hc:∀w,Cls w0 own m w→Does P f vs w R) (k:∀v m',R v m'→L P ops Q n (Cls w0 own (m'++m)) rest ((d,v)::fs)):L P ops Q n (Cls w0 own m) (⟨some d,.call ⟨.value (.func f),xs.toArray,ts⟩,t,pos,af,none⟩::rest) fs:=by
 refine L.call (R:=fun v w'=>∃m',R v m'∧Cls w0 own (m'++m) w') hd he hx (fun w hw=>Calls.mono (hc w hw) ?_) fun v=>fJ fun m'=>?_
 ·rintro e w' ⟨v,m',rfl,hv,hcl⟩
  exact⟨v,rfl,m',hv,hw.call hcl⟩
 ·rintro a w hs ⟨hr,hcl⟩
  exact k v m' hr a w hs hcl
theorem dK{f:FuncId}{xs:List Operand}{ts:Array TypeId}{vs:List Value}{v:Value}{w0:World}{own:List Nat}{m:List As}(he:kn P f=true)(hx:vals fs xs=some vs)
  (hc:∀w,Cls w0 own m w→Does P f vs w fun u _=>u=v):Y P (.call ⟨.value (.func f),xs.toArray,ts⟩) t n fs (Cls w0 own m) v:=
 Y.call he hx fun w hw=>Calls.mono (hc w hw) fun e w' ⟨u,m',he',hu,hcl⟩=>⟨by rw[he',hu],(hw.call hcl).sublist (List.sublist_append_right _ _)⟩
end Go.S
end
section
namespace Go.S
variable{P:Program}{Q:Exit→Act→World→Prop}{n:Nat}{fs:Fr}{t:TypeId}{ops:Array Oper}{rest:List Oper}{d:Nat}{pos:String}{af:Array Edge}
variable{w0:World}{own:List Nat}{m:List As}
def jn(P:Program)(t:TypeId):Option (List Value):=(P.info? t).bind fun i=>i.zero.map (·.cells.toList)
theorem qiD{cs:List Value}(h:jn P t=some cs)(w:World):∃z,(zeroValue t).run P w=.ok z w∧z.cells=cs.toArray:=by
 unfold jn at h
 cases hi:P.info? t with
 | none=>simp[hi]at h
 | some i =>
  simp only[hi,Option.bind_some]at h
  cases hz:i.zero with
  | none=>simp[hz]at h
  | some z =>
   simp only[hz,Option.map_some,Option.some.injEq]at h
   exact⟨z,by simp[zeroValue,typeInfo,hi,hz],by rw[←h]⟩
theorem dS{op:Op}{C:World→Prop}{R:Value→World→Prop}(hd:Nat.blt d n=true)
  (hr:∀a w,Slots n fs a→C w→∃v w',(execOp a.eval ⟨some d,op,t,pos,af,none⟩).run P w=.ok (.value v) w'∧R v w')
  (k:∀v,L P ops Q n (R v) rest ((d,v)::fs)):L P ops Q n C (⟨some d,op,t,pos,af,none⟩::rest) fs:=by
 intro a w hs hw
 obtain⟨v,w',h,hv⟩:=hr a w hs hw
 simp only[wpList,Region.wanted,if_true]
 refine .inl ?_
 unfold Oper.wp
 rw[h]
 exact k v _ w' (hs.put hd v) hv
theorem cG{op:Op}{C D:World→Prop}
  (hr:∀a w,Slots n fs a→C w→∃w',(execOp a.eval ⟨none,op,t,pos,af,none⟩).run P w=.ok .skip w'∧D w')
  (k:L P ops Q n D rest fs):L P ops Q n C (⟨none,op,t,pos,af,none⟩::rest) fs:=by
 intro a w hs hw
 obtain⟨w',h,hv⟩:=hr a w hs hw
 simp only[wpList,Region.wanted,if_true]
 refine .inl ?_
 unfold Oper.wp
 rw[h]
 exact k _ w' hs hv
theorem ct{op:Op}{D:Nat→World→Prop}{C:World→Prop}{val':Nat→Value}(hd:Nat.blt d n=true)
  (hr:∀a w,Slots n fs a→C w→∃b w',(execOp a.eval ⟨some d,op,t,pos,af,none⟩).run P w=.ok (.value (val' b)) w'∧D b w')
  (k:∀b,L P ops Q n (D b) rest ((d,val' b)::fs)):L P ops Q n C (⟨some d,op,t,pos,af,none⟩::rest) fs:=by
 intro a w hs hw
 obtain⟨b,w',h,hv⟩:=hr a w hs hw
 simp only[wpList,Region.wanted,if_true]
 refine .inl ?_
 unfold Oper.wp
 rw[h]
 exact k b _ w' (hs.put hd _) hv
theorem L.alloc{e:TypeId}{cs:List Value}(hd:Nat.blt d n=true)(hz:jn P e=some cs)(k:∀b,L P ops Q n (Cls w0 own (.obj b cs e::m)) rest ((d,pt b 0)::fs)) :
  L P ops Q n (Cls w0 own m) (⟨some d,.alloc e,t,pos,af,none⟩::rest) fs:=
 ct (val':=fun b=>pt b 0) hd (fun a w hs hw=>by
  obtain⟨z,h1,h2⟩:=qiD hz w
  exact⟨w.heap.size,_,by simp[execOp,Instr.alloc,h1,newVar,newRow,h2,pt],hw.alloc cs e⟩) k
theorem bV{e:TypeId}{x:Operand}{v:Value}(hd:Nat.blt d n=true)(hx:val fs x=some v)(k:∀b,L P ops Q n (Cls w0 own (.obj b v.cells.toList e::m)) rest ((d,pt b 0)::fs)) :
  L P ops Q n (Cls w0 own m) (⟨some d,.box e x,t,pos,af,none⟩::rest) fs:=
 ct (val':=fun b=>pt b 0) hd (fun a w hs hw=>by
  refine⟨w.heap.size,_,?_,hw.alloc v.cells.toList e⟩
  simp only[execOp,hs.eval hx]
  simp[Instr.box,newVar,newRow,pt]) k
def over(c:List Value)(off:Nat):List Value→List Value
 | []=>c
 | v::vs=>over (c.set off v) (off+1) vs
theorem qc:∀(vs:List Value) (c:List Value) (off:Nat),(over c off vs).length=c.length
 | [],_,_=>rfl
 | v::vs,c,off=>by simp[over,qc vs]
structure Turned(w w':World)(b:Nat):Prop where
 os:w'.os=w.os
 tape:w'.tape=w.tape
 output:w'.output=w.output
 size:w'.heap.size=w.heap.size
 drawn:w'.drawn=w.drawn
 rest:∀k,k≠b→w'.heap[k]?=w.heap[k]?
theorem Turned.refl(w:World)(b:Nat):Turned w w b:=⟨rfl,rfl,rfl,rfl,rfl,fun _ _=>rfl⟩
theorem Turned.trans{w1 w2 w3:World}{b:Nat}(h:Turned w1 w2 b)(k:Turned w2 w3 b):Turned w1 w3 b:=
 ⟨k.os.trans h.os,k.tape.trans h.tape,k.output.trans h.output,k.size.trans h.size,k.drawn.trans h.drawn,fun i hi=>(k.rest i hi).trans (h.rest i hi)⟩
theorem qY(b:Nat)(e:TypeId)(off:Nat):∀(vs:List Value) (i:Nat) (c:List Value) (w:World),w.heap[b]?=some (.cells c.toArray e (0,0))→off+i+vs.length≤c.length→(∀u∈vs,u.oneCell'=true) →
  ∃w',(storeCells ⟨b,off,none⟩ vs i).run P w=.ok () w'∧w'.heap[b]?=some (.cells (over c (off+i) vs).toArray e (0,0))∧Turned w w' b
 | [],i,c,w,hb,_,_=>⟨w,by simp[storeCells],hb,Turned.refl w b⟩
 | v::vs,i,c,w,hb,hl,h1=>by
  simp only[List.length_cons]at hl
  have hcell:w.cell? ⟨b,off+i,none⟩=some (c[off+i]'(by omega)):=by
   simp[World.cell?,hb,List.getElem?_eq_getElem (show off+i<c.length by omega)]
  have hfz:w.frozen? ⟨b,off+i,none⟩=false:=by simp[World.frozen?,hb]
  have hst:=run_store P w ⟨b,off+i,none⟩ v .plain (h1 v (by simp))
  rw[hcell]at hst
  simp only[hfz,Bool.false_eq_true,if_false]at hst
  have hb':(w.setCell ⟨b,off+i,none⟩ v).heap[b]?=some (.cells (c.set (off+i) v).toArray e (0,0)):=by
   simp only[World.setCell,Array.getElem?_modify,if_true,hb,Option.map_some]
   simp
  have ht:Turned w (w.setCell ⟨b,off+i,none⟩ v) b:=⟨rfl,rfl,rfl,by simp[World.setCell],rfl,fun k hk=>RowKit.Below.heap_setCell w _ _ _ hk⟩
  obtain⟨w',h2,h3,h4⟩:=qY b e off vs (i+1) (c.set (off+i) v) _ hb' (by simp;omega) (fun u hu=>h1 u (by simp[hu]))
  refine⟨w',?_,by rw[over,show off+i+1=off+(i+1) by omega];exact h3,ht.trans h4⟩
  simp only[storeCells,Sem.run_bind,Addr.add_lit,hst,Result.andThen,h2]
theorem Cls.wrote{w w':World}{i b:Nat}{c c':List Value}{e:TypeId}(h:Cls w0 own m w)(hi:m[i]?=some (.obj b c e))(ht:Turned w w' b)(hb:w'.heap[b]?=some (.cells c'.toArray e (0,0))):Cls w0 own (m.set i (.obj b c' e)) w':=
 h.turn hi rfl ht.os ht.tape ht.output ht.size (Nat.le_of_eq ht.drawn.symm) (fun k hk=>ht.rest k (by simpa [As.foot]using hk)) hb
theorem bS{x y:Operand}{b off i k:Nat}{c:List Value}{e te:TypeId}{v:Value}{vs:List Value}(hs:szB P te k=true)(hx:val fs x=some (pt b off))(hy:val fs y=some v)(hv:v.cells.toList=vs)(hk:vs.length=k)
  (h1:∀u∈vs,u.oneCell'=true) (hm:m[i]?=some (.obj b c e)) (hl:off+k≤c.length) (next:L P ops Q n (Cls w0 own (m.set i (.obj b (over c off vs) e))) rest fs) :
  L P ops Q n (Cls w0 own m) (⟨none,.store te x y,t,pos,af,none⟩::rest) fs:=
 cG (fun a w hs' hw=>by
  have hb:=hw.get hm
  obtain⟨w',h2,h3,h4⟩:=qY (P:=P) b e off vs 0 c w hb (by omega) h1
  refine⟨w',?_,hw.wrote hm h4 h3⟩
  simp only[execOp,hs'.eval hx,hs'.eval hy]
  have hsz:v.cells.size=k:=by rw[←hk,←hv];simp
  simp[Instr.storeAt,Instr.sureAddr,pt,storeVar,qt hs,hsz,hv,h2]) next
theorem Cls.cell{w:World}(h:Cls w0 own m w){i b off:Nat}{c:List Value}{e:TypeId}{v:Value}(hi:m[i]?=some (.obj b c e))(hv:c[off]?=some v):w.cell? ⟨b,off,none⟩=some v:=by
 have hb:w.heap[b]?=some (.cells c.toArray e (0,0)):=h.get hi
 simp[World.cell?,hb,hv]
theorem am{x:Operand}{b off i:Nat}{c:List Value}{e te:TypeId}{v:Value}(ha:qP P te false=true)(hx:val fs x=some (pt b off))(hm:m[i]?=some (.obj b c e))(hv:c[off]?=some v):Y P (.load te x) t n fs (Cls w0 own m) v:=
 cY ha hx fun _ hw=>hw.cell hm hv
theorem cv{x:Operand}{b off i:Nat}{c:List Value}{e te:TypeId}{vs:List Value}{k:Nat}(ha:qP P te true=true)(hs:szB P te k=true)(hx:val fs x=some (pt b off))(hm:m[i]?=some (.obj b c e))(hk:vs.length=k)
  (hv:∀j u,vs[j]?=some u→c[off+j]?=some u):Y P (.load te x) t n fs (Cls w0 own m) (.agg vs.toArray):=
 dH ha hs hx hk fun _ hw j u hu=>by rw[Addr.add_lit];exact hw.cell hm (hv j u hu)
theorem bp{x:Operand}{b i:Nat}{c:List Value}{e te:TypeId}{k:Nat}(ha:qP P te true=true)(hs:szB P te k=true)(hx:val fs x=some (pt b 0))(hm:m[i]?=some (.obj b c e))(hk:c.length=k):Y P (.load te x) t n fs (Cls w0 own m) (.agg c.toArray):=
 cv ha hs hx hm hk fun j u hu=>by rwa [Nat.zero_add]
theorem cP{C:World→Prop}{x:Operand}{v:Value}{k i j:Nat}{rows:List (List Value)}{r:List Value}{u:Value}{te:TypeId}(ha:qP P te false=true)(hx:val fs x=some (el v (i*k+j)))(hA:∀w,C w→At w v k rows)(hr:rows[i]?=some r)(hu:r[j]?=some u) :
  Y P (.load te x) t n fs C u:=
 cY ha hx fun w hw=>(hA w hw).cell i r j u hr hu
theorem aB{C:World→Prop}{x:Operand}{v:Value}{i:Nat}{rows:List (List Value)}{u:Value}{te:TypeId}(ha:qP P te false=true)(hx:val fs x=some (el v (i*1)))(hA:∀w,C w→At w v 1 rows)(hr:rows[i]?=some [u]) :
  Y P (.load te x) t n fs C u:=
 cY ha hx fun w hw=>(hA w hw).cell i [u] 0 u hr rfl
theorem bR{C:World→Prop}{x:Operand}{v:Value}{k i:Nat}{rows:List (List Value)}{r:List Value}{te:TypeId}(ha:qP P te true=true)(hs:szB P te k=true)(hx:val fs x=some (el v (i*k)))(hA:∀w,C w→At w v k rows)(hr:rows[i]?=some r)(hk:r.length=k) :
  Y P (.load te x) t n fs C (.agg r.toArray):=
 dH ha hs hx hk fun w hw j u hu=>by rw[add_add];exact(hA w hw).cell i r j u hr hu
end Go.S
end
section
namespace Go.S
variable{P:Program}{Q:Exit→Act→World→Prop}{n:Nat}{fs:Fr}{t:TypeId}{ops:Array Oper}{rest:List Oper}{d:Nat}{pos:String}{af:Array Edge}
variable{w0:World}{own:List Nat}{m:List As}
def xf(P:Program)(e:TypeId)(k by':Nat):Bool:=match P.info? e with
 | some i=>Nat.beq i.size k&&Nat.beq i.bytes by'&&Nat.blt 0 k&&(match i.zero with
  | some z=>Nat.beq z.cells.size k
  | none=>false)
 | none=>false
theorem vF{e:TypeId}{k by':Nat}(h:xf P e k by'=true):∃i z,P.info? e=some i∧i.zero=some z∧i.size=k∧i.bytes=by'∧z.cells.size=k∧0<k:=by
 unfold xf at h
 cases hi:P.info? e with
 | none=>simp[hi]at h
 | some i =>
  simp only[hi,Bool.and_eq_true]at h
  obtain⟨⟨⟨h1,h2⟩,h3⟩,h4⟩:=h
  cases hz:i.zero with
  | none=>simp[hz]at h4
  | some z =>
   simp only[hz]at h4
   exact⟨i,z,rfl,hz,Nat.eq_of_beq_eq_true h1,Nat.eq_of_beq_eq_true h2,Nat.eq_of_beq_eq_true h4,by simpa using h3⟩
def Plain(rows:List (List Value)):Prop:=∀r∈rows,∀u∈r,u.oneCell'=true
theorem At.flat{w:World}{v:Value}{k:Nat}{rows:List (List Value)}(h:At w v k rows):rows.flatten.length=rows.length*k:=by
 have:∀(l:List (List Value)),(∀r∈l,r.length=k)→l.flatten.length=l.length*k:=by
  intro l
  induction l with
  | nil=>intro _;simp
  | cons r l ih=>intro hl;simp only[List.flatten_cons,List.length_append,List.length_cons,hl r (by simp),ih (fun q hq=>hl q (by simp[hq])),Nat.succ_mul];omega
 exact this rows h.len
theorem At.flat_cell{w:World}{v:Value}{k:Nat}{rows:List (List Value)}(h:At w v k rows)(hk:0<k):∀j u,rows.flatten[j]?=some u→w.cell? ((adr v).add j)=some u:=by
 intro j u hu
 have hj:=(List.getElem?_eq_some_iff.1 hu).1
 rw[h.flat]at hj
 have hi:j/k<rows.length:=(Nat.div_lt_iff_lt_mul hk).2 hj
 have hr:=List.getElem?_eq_getElem hi
 have hm:j%k<(rows[j/k]).length:=by rw[h.len _ (List.getElem_mem hi)];exact Nat.mod_lt _ hk
 have hx:=List.getElem?_eq_getElem hm
 have h1:=h.cell _ _ _ _ hr hx
 have h2:=qR rows _ _ _ _ h.len hr hx
 have e:j/k*k+j%k=j:=by rw[Nat.mul_comm];exact Nat.div_add_mod j k
 rw[e]at h1 h2
 rw[hu]at h2
 injection h2 with h2
 rw[h2];exact h1
theorem vw(base:Nat)(t ty e:TypeId)(size:Nat)(ht:P.underlying t=some (.slice e))(hs:szB P e size=true){w:World}{v:Value}{n:Nat}{xs:List Value}(hown:w.ownsRow base e size v n xs):(Builtin.append_ #[t,t] ty #[v,.slice none 0 0]).run P w=.ok v w:=by
 rcases hown.2 with⟨rfl,rfl⟩|⟨g,cap,cur,rfl,_,_,hnc,_⟩
 ·simp[Builtin.append_,run_underlying ht,qt hs,Builtin.lenOf,Builtin.firstCells]
 ·simp[Builtin.append_,run_underlying ht,qt hs,Builtin.lenOf,Builtin.firstCells,hnc,storeCells]
theorem Cls.grew{w w':World}{i:Nat}{v v':Value}{e:TypeId}{k:Nat}{rows rows':List (List Value)}(h:Cls w0 own m w)(hi:m[i]?=some (.sl v e k rows))(hdr:w.drawn≤w'.drawn)(hg:w.grownBy w' v.ownBlock)
  (hb:v'.ownBlock=v.ownBlock∨v'.ownBlock=some w.heap.size) (hy:(As.sl v' e k rows').holds w'):Cls w0 own (.sl v' e k rows'::m.eraseIdx i) w':=by
 obtain⟨hil,hxi⟩:=List.getElem?_eq_some_iff.1 hi
 have hp:m.Perm (.sl v e k rows::m.eraseIdx i):=by
  have:∀(l:List As) (j:Nat) (h:j<l.length),l.Perm (l[j]::l.eraseIdx j):=by
   intro l
   induction l with
   | nil=>intro j h;simp at h
   | cons q l ih =>
    intro j h
    cases j with
    | zero=>simp
    | succ j=>simp only[List.getElem_cons_succ,List.eraseIdx_cons_succ];exact((ih j (by simpa using h)).cons q).trans (.swap _ _ _)
  have:=this m i hil
  rwa [hxi]at this
 have h':=h.perm hp.symm
 have hnd:=h'.nodup
 rw[List.flatMap_cons,List.nodup_append]at hnd
 obtain⟨hn1,hn2,hn3⟩:=hnd
 refine⟨hg.os.trans h.os,hg.tape.trans h.tape,hg.output.trans h.output,h.dr.trans (.of hdr),Nat.le_trans h.size hg.size,fun q hq ho=>?_,?_,fun x hx=>?_⟩
 ·rw[hg.block q (Nat.lt_of_lt_of_le hq h.size),h.old q hq ho]
  intro hv
  have:=(h'.mine _ (List.mem_cons_self)).2 q (by simp[As.foot,←hv])
  rcases this with h1|h1
  ·omega
  ·exact ho h1
 ·rw[List.flatMap_cons,List.nodup_append]
  refine⟨by cases hv:v'.ownBlock<;>simp[As.foot,hv],hn2,fun a ha b hb' heq=>?_⟩
  subst heq
  simp only[As.foot,Option.mem_toList]at ha
  rcases hb with hb|hb
  ·exact hn3 a (by simp[As.foot,←hb,ha]) a hb' rfl
  ·rw[hb]at ha
   injection ha with ha
   have:=(h'.sublist (List.sublist_cons_self _ _)).foot_lt a hb'
   omega
 ·rcases List.mem_cons.1 hx with rfl|hx
  ·refine⟨hy,fun b hb'=>?_⟩
   simp only[As.foot,Option.mem_toList]at hb'
   rcases hb with hb|hb
   ·exact(h'.mine _ (List.mem_cons_self)).2 b (by simp[As.foot,←hb,hb'])
   ·rw[hb]at hb'
    injection hb' with hb'
    exact .inl (hb'▸h.size)
  ·have hxm:=h'.mine x (List.mem_cons_of_mem _ hx)
   refine⟨As.holds_congr hxm.1 fun b hb'=>?_,hxm.2⟩
   refine hg.block b (As.holds_lt hxm.1 b hb') fun heq=>?_
   exact hn3 b (by simp[As.foot,←heq]) b (List.mem_flatMap.2 ⟨x,hx,hb'⟩) rfl
theorem ey{x y:Operand}{i:Nat}{v u:Value}{e:TypeId}{k by':Nat}{rows more:List (List Value)}{tx:TypeId}(hd:Nat.blt d n=true)(hu:P.underlying tx=some (.slice e))(he:xf P e k by'=true)(hx:val fs x=some v)(hy:val fs y=some u)
  (hm:m[i]?=some (.sl v e k rows)) (hB:∀w,Cls w0 own m w→At w u k more) (hp:Plain more) (hl:rows.length+more.length≤maxLen) (hb:(rows.length+more.length)*by'≤140737488355328)
  (next:∀v',L P ops Q n (Cls w0 own (.sl v' e k (rows++more)::m.eraseIdx i)) rest ((d,v')::fs)) :
  L P ops Q n (Cls w0 own m) (⟨some d,.call ⟨.builtin .append,#[x,y],#[tx,tx]⟩,t,pos,af,none⟩::rest) fs:=by
 refine dS (R:=fun v' w'=>Cls w0 own (.sl v' e k (rows++more)::m.eraseIdx i) w') hd (fun a w hs hw=>?_) next
 obtain⟨inf,z,hi,hz,hsz,hby,hzs,hk⟩:=vF he
 have hown:=hw.get hm
 have hBw:=hB w hw
 have key:∃v' w',(Builtin.append_ #[tx,tx] t #[v,u]).run P w=.ok v' w'∧w'.ownsRow 0 e k v' (rows.length+more.length) (rows.flatten++more.flatten)∧w.grownBy w' v.ownBlock∧(v'.ownBlock=v.ownBlock∨v'.ownBlock=some w.heap.size):=by
  rcases hBw.shape with⟨rfl,rfl⟩|⟨ad,cap,rfl,_,_⟩
  ·refine⟨v,w,vw 0 tx t e k hu (by simp[szB,hi,hsz]) hown.2,by simpa using hown.2,⟨rfl,rfl,rfl,Nat.le_refl _,fun _ _ _=>rfl⟩,.inl rfl⟩
  ·obtain⟨v',w',h1,h2,h3,_,h5⟩:=run_append_own_at (P:=P) w 0 tx t e inf z k by' hu hi hz hsz hby hzs hk v rows.length rows.flatten hown.2 ad more.length cap more.flatten hBw.flat
    (by simpa [adr]using hBw.flat_cell hk) (fun u' hu'=>by obtain⟨r,hr,hur⟩:=List.mem_flatten.1 hu';exact hp r hr u' hur) hl hb (Nat.zero_le _)
   exact⟨v',w',h1,h2,h3,h5⟩
 obtain⟨v',w',h1,h2,h3,h4⟩:=key
 refine⟨v',w',?_,hw.grew hm (qgN _ h1) h3 h4 ⟨?_,by simpa using h2⟩⟩
 ·simp only[execOp,resolve,List.map_toArray,List.map_cons,List.map_nil,hs.eval hx,hs.eval hy]
  simp[invoke,builtin,h1]
 ·intro r hr
  rcases List.mem_append.1 hr with hr|hr
  ·exact hown.1 r hr
  ·exact hBw.len r hr
def sv(b n:Nat):Value:=.slice (some ⟨b,0,none⟩) n n
theorem Cls.allocSl{w:World}(h:Cls w0 own m w)(e:TypeId)(k:Nat)(rows:List (List Value))(hr:∀r∈rows,r.length=k)(hl:rows.flatten.length=rows.length*k)(hm:rows.length≤maxLen) :
  Cls w0 own (.sl (sv w.heap.size rows.length) e k rows::m) (w.alloc (.cells rows.flatten.toArray e)):=by
 have h1:=h.alloc rows.flatten e
 refine⟨h1.os,h1.tape,h1.output,h1.dr,h1.size,h1.old,h1.nodup,fun x hx=>?_⟩
 rcases List.mem_cons.1 hx with rfl|hx
 ·refine⟨⟨hr,hl,.inr ⟨w.heap.size,rows.length,rows.flatten.toArray,rfl,Nat.zero_le _,(h1.mine _ (List.mem_cons_self)).1,Nat.le_refl _,hm,by simp[hl],by rw[List.toList_toArray,←hl,List.take_length]⟩⟩,fun b hb=>(h1.mine _ (List.mem_cons_self)).2 b hb⟩
 ·exact h1.mine x (List.mem_cons_of_mem _ hx)
theorem qiW{k:Nat}{z:Array Value}{v:Value}(hz:z.size=k)(hv:v.cells.size=k):Instr.fill (fun i=>some (i*k,k)) z [(0,v)]=some v.cells:=by
 subst hv
 have key:∀(l:List Value) (i:Nat) (z:Array Value),i+l.length≤z.size→(l.zipIdx i).foldl (fun cs (x:Value×Nat)=>cs.setIfInBounds x.2 x.1) z=(z.toList.take i++l++z.toList.drop (i+l.length)).toArray:=by
  intro l
  induction l with
  | nil=>intro i z _;simp
  | cons x l ih =>
   intro i z hl
   simp only[List.zipIdx_cons,List.foldl_cons]
   rw[ih (i+1) _ (by simp at hl ⊢;omega)]
   simp only[List.length_cons]at hl
   apply Array.ext'
   simp only[Array.toList_setIfInBounds]
   rw[List.take_set,List.drop_set_of_lt (by omega)]
   have:i<z.toList.length:=by simp;omega
   rw[List.take_succ_eq_append_getElem this,List.set_append]
   simp[show min i z.size=i by omega,show i+1+l.length=i+(l.length+1) by omega]
 have h:=key v.cells.toList 0 z (by simp[hz])
 simp only[Instr.fill,Nat.zero_mul,Nat.zero_add]
 rw[if_neg (by simp;omega)]
 have h2:v.cells.zipIdx.foldl (fun cs (x:Value×Nat)=>cs.setIfInBounds x.2 x.1) z=v.cells:=by
  rw[←Array.foldl_toList,Array.toList_zipIdx]
  rw[h]
  apply Array.ext'
  simp[List.drop_eq_nil_of_le (show z.toList.length≤v.cells.size by simp[hz])]
 exact congrArg some h2
theorem qaa{e:TypeId}{k by':Nat}(he:xf P e k by'=true):∃z:Value,z.cells.size=k∧0<k∧(∀w,(sizeOf e).run P w=.ok k w)∧(∀w,(zeroValue e).run P w=.ok z w)∧(∀w,((typeInfo e).run P w).andThen (fun i w=>.ok i.bytes w)=.ok by' w):=by
 obtain⟨inf,z,hi,hz,hsz,hby,hzs,hk⟩:=vF he
 exact⟨z,hzs,hk,fun w=>qt (by simp[szB,hi,hsz]) w,fun w=>by simp[zeroValue,typeInfo,hi,hz],fun w=>by simp[typeInfo,hi,hby]⟩
theorem eH{x:Operand}{v:Value}{e tx:TypeId}{k by':Nat}{r:List Value}(hd:Nat.blt d n=true)(hu:P.underlying tx=some (.slice e))(he:xf P e k by'=true)(hk16:Nat.ble k 1000=true)(hx:val fs x=some v)(hr:v.cells.toList=r)(hk:r.length=k)
  (next:∀b,L P ops Q n (Cls w0 own (.sl (sv b 1) e k [r]::m)) rest ((d,sv b 1)::fs)):L P ops Q n (Cls w0 own m) (⟨some d,.buildSlice tx 1 #[(0,x)],t,pos,af,none⟩::rest) fs:=
 ct (val':=fun b=>sv b 1) hd (fun a w hs hw=>by
  obtain⟨z,hzs,hk0,h1,h2,_⟩:=qaa he
  have hvs:v.cells.size=k:=by rw[←hk,←hr];simp
  have hk':k≤1000:=by simpa using hk16
  refine⟨w.heap.size,_,?_,hw.allocSl e k [r] (by simp[hk]) (by simp[hk]) (by simp[maxLen])⟩
  have hf:=qiW (k:=k) (z:=(Array.range k).map fun i=>z.cells[i%z.cells.size]!) (v:=v) (by simp) hvs
  simp only[execOp,List.map_toArray,List.map_cons,List.map_nil,hs.eval hx]
  simp only[Instr.buildSlice,Sem.run_bind,run_underlying hu,Result.andThen,h1,Nat.one_mul]
  rw[if_neg (by omega)]
  simp only[Sem.run_bind,Sem.run_pure,Result.andThen,show ¬k=0 by omega,if_false,h2,hf]
  simp[newRow,sv,←hr]) next
theorem qcH:∀(vs:List Value) (i:Nat) (z:Array Value),(∀v∈vs,v.cells=#[v])→i+vs.length≤z.size →
  Instr.fill (fun j=>some (j*1,1)) z ((vs.zipIdx i).map fun x=>(x.2,x.1))=some (z.toList.take i++vs++z.toList.drop (i+vs.length)).toArray
 | [],i,z,_,_=>by simp[Instr.fill]
 | v::vs,i,z,hv,hl=>by
  have h0:=hv v (by simp)
  simp only[List.length_cons]at hl
  simp only[List.zipIdx_cons,List.map_cons,Instr.fill,h0,Nat.mul_one]
  rw[if_neg (by simp;omega)]
  have hz:(#[v].zipIdx.foldl (fun cs (x:Value×Nat)=>cs.setIfInBounds (i+x.2) x.1) z)=z.setIfInBounds i v:=by simp
  rw[hz]
  have ih:=qcH vs (i+1) (z.setIfInBounds i v) (fun u hu=>hv u (by simp[hu])) (by simp;omega)
  simp only[Nat.mul_one]at ih
  rw[ih]
  have hi:i<z.toList.length:=by simp;omega
  simp only[Array.toList_setIfInBounds,List.length_cons]
  rw[List.take_set,List.drop_set_of_lt (by omega),List.take_succ_eq_append_getElem hi,List.set_append]
  have e:min i z.size=i:=by omega
  simp[e,show i+1+vs.length=i+(vs.length+1) by omega]
theorem fq{xs:List Operand}{vs:List Value}{e tx:TypeId}{by' l:Nat}{ps:Array (Nat×Operand)}(hd:Nat.blt d n=true)(hu:P.underlying tx=some (.slice e))(he:xf P e 1 by'=true)(hl:xs.length=l)(hl16:Nat.ble l 1000=true)(hp:ps=((xs.zipIdx 0).map fun x=>(x.2,x.1)).toArray)
  (hx:vals fs xs=some vs) (h1:∀v∈vs,v.cells=#[v]) (next:∀b,L P ops Q n (Cls w0 own (.sl (sv b l) e 1 (vs.map fun v=>[v])::m)) rest ((d,sv b l)::fs)):L P ops Q n (Cls w0 own m) (⟨some d,.buildSlice tx l ps,t,pos,af,none⟩::rest) fs:=
 ct (val':=fun b=>sv b l) hd (fun a w hs hw=>by
  obtain⟨z,hzs,hk0,h2,h3,_⟩:=qaa he
  have hvs:=hs.evals hx
  have hvl:vs.length=l:=by rw[←hl,←hvs];simp
  have hk':l≤1000:=by simpa using hl16
  have hflat:(vs.map fun v=>[v]).flatten=vs:=by
   clear hvs hvl h1 hx next
   induction vs with
   | nil=>rfl
   | cons v vs ih=>simp[ih]
  have hal:=hw.allocSl e 1 (vs.map fun v=>[v]) (by simp) (by rw[hflat];simp) (by simp[maxLen,hvl];omega)
  rw[hflat]at hal
  simp only[List.length_map,hvl]at hal
  refine⟨w.heap.size,_,?_,hal⟩
  have hps:(ps.map fun(x:Nat×Operand)=>(x.1,a.eval x.2)).toList=(vs.zipIdx 0).map fun x=>(x.2,x.1):=by
   subst hp
   rw[←hvs]
   simp only[List.map_toArray,List.map_map,List.zipIdx_map]
   rfl
  have hf:=qcH vs 0 ((Array.range l).map fun i=>(if l=0 then #[] else z.cells)[i%(if l=0 then #[] else z.cells).size]!) h1 (by simp[hvl])
  simp only[execOp]
  simp only[Instr.buildSlice,Sem.run_bind,run_underlying hu,Result.andThen,h2,Nat.mul_one,hps]
  rw[if_neg (by omega)]
  simp only[Nat.mul_one]at hf
  by_cases h0:l=0
  ·simp only[Sem.run_bind,Sem.run_pure,Result.andThen,h0,if_true]at hf ⊢
   rw[hf]
   have:vs=[]:=List.eq_nil_of_length_eq_zero (by omega)
   subst this
   simp[newRow,sv]
  ·simp only[Sem.run_bind,Sem.run_pure,Result.andThen,h0,if_false,h3]at hf ⊢
   rw[hf]
   simp[newRow,sv,hvl,List.drop_eq_nil_of_le]) next
end Go.S
end
section
namespace Go.S
variable{P:Program}{Q:Exit→Act→World→Prop}{n:Nat}{fs:Fr}{t:TypeId}{ops:Array Oper}{rest:List Oper}{d:Nat}{pos:String}{af:Array Edge}
variable{w0:World}{own:List Nat}{m:List As}
theorem qr{tx e:TypeId}(hu:P.underlying tx=some (.slice e)):P.underlying tx=some (.slice (P.elem tx)):=by simp[Program.elem,hu]
theorem ze{tx e:TypeId}(hu:P.underlying tx=some (.slice e)):P.elem tx=e:=by simp[Program.elem,hu]
theorem fF{x y:Operand}{i:Nat}{v:Value}{e:TypeId}{k:Nat}{rows:List (List Value)}{tx:TypeId}{ik:IntKind}{h:Int}(hd:Nat.blt d n=true)(hu:P.underlying tx=some (.slice e))(hs:szB P e k=true)(hx:val fs x=some v)(hy:val fs y=some (.int ik h))
  (hm:m[i]?=some (.sl v e k rows)) (h0:0≤h) (h1:h≤rows.length) (next:∀v',L P ops Q n (Cls w0 own (m.set i (.sl v' e k (rows.take h.toNat)))) rest ((d,v')::fs)) :
  L P ops Q n (Cls w0 own m) (⟨some d,.slice tx x none (some y) none,t,pos,af,none⟩::rest) fs:=by
 refine dS (R:=fun v' w'=>Cls w0 own (m.set i (.sl v' e k (rows.take h.toNat))) w') hd (fun a w hsl hw=>?_) next
 obtain⟨hr,hl,hown⟩:=hw.get hm
 have hh:h.toNat≤rows.length:=by omega
 rcases hown with⟨rfl,hn⟩|⟨g,cap,cur,rfl,hg,hh',hnc,hcm,hcs,htake⟩
 ·have:rows=[]:=List.length_eq_zero_iff.1 hn
  subst this
  have hz:h=0:=by simp at h1;omega
  subst hz
  refine⟨.slice none 0 0,w,?_,hw.turn hm rfl rfl rfl rfl rfl (Nat.le_refl _) (fun _ _=>rfl) ⟨by simp,by simp,.inl ⟨rfl,by simp⟩⟩⟩
  have h:=run_slice_h (P:=P) w tx none 0 0 (qr hu) ik 0 (by omega) (by omega)
  rw[ze hu,qt hs]at h
  simp only[execOp,hsl.eval hx,hsl.eval hy,Option.map_some,Option.map_none]
  simp[run_sliceAt_slice w tx _ _ _ _ (qr hu),h,sliced]
 ·have hrun:=run_slice_h (P:=P) w tx (some ⟨g,0,none⟩) rows.length cap (qr hu) ik h h0 (by omega)
  rw[ze hu,qt hs]at hrun
  refine⟨.slice (some ⟨g,0,none⟩) h.toNat cap,w,?_,hw.turn hm rfl rfl rfl rfl rfl (Nat.le_refl _) (fun _ _=>rfl) ⟨fun r hr'=>hr r (List.mem_of_mem_take hr'),?_,.inr ⟨g,cap,cur,?_,hg,hh',?_,hcm,hcs,?_⟩⟩⟩
  ·simp only[execOp,hsl.eval hx,hsl.eval hy,Option.map_some,Option.map_none]
   simp[run_sliceAt_slice w tx _ _ _ _ (qr hu),hrun,sliced]
   intro _
   simp[Addr.add]
  ·have:∀(l:List (List Value)),(∀r∈l,r.length=k)→l.flatten.length=l.length*k:=by
    intro l
    induction l with
    | nil=>intro _;simp
    | cons r l ih=>intro hl;simp only[List.flatten_cons,List.length_append,List.length_cons,hl r (by simp),ih (fun q hq=>hl q (by simp[hq])),Nat.succ_mul];omega
   exact this _ fun r hr'=>hr r (List.mem_of_mem_take hr')
  ·simp[List.length_take];omega
  ·simp[List.length_take];omega
  ·have:(rows.take h.toNat).flatten=rows.flatten.take (h.toNat*k):=by
    have key:∀(l:List (List Value)) (j:Nat),(∀r∈l,r.length=k)→(l.take j).flatten=l.flatten.take (j*k):=by
     intro l
     induction l with
     | nil=>intro j _;simp
     | cons r l ih =>
      intro j hl
      cases j with
      | zero=>simp
      | succ j =>
       have hrk:=hl r (by simp)
       simp only[List.take_succ_cons,List.flatten_cons,ih j (fun q hq=>hl q (by simp[hq]))]
       rw[List.take_append,List.take_of_length_le (l:=r) (by rw[hrk,Nat.succ_mul];omega),hrk,show(j+1)*k-k=j*k by rw[Nat.succ_mul];omega]
    exact key rows _ hr
   rw[this,←htake,List.take_take]
   congr 1
   simp only[List.length_take]
   rw[show min h.toNat rows.length=h.toNat by omega]
   rw[Nat.min_eq_left (Nat.mul_le_mul_right k hh)]
theorem fK{C:World→Prop}{op:Op}{k:IntKind}{a b:Int}(h:a=b)(hy:Y P op t n fs C (.int k a)):Y P op t n fs C (.int k b):=h▸hy
theorem Cls.nilSl{w:World}(h:Cls w0 own m w)(e:TypeId)(k:Nat):Cls w0 own (.sl (.slice none 0 0) e k []::m) w:=
 ⟨h.os,h.tape,h.output,h.dr,h.size,h.old,by simpa [As.foot,Value.ownBlock]using h.nodup,fun x hx=>by
  rcases List.mem_cons.1 hx with rfl|hx
  ·exact⟨⟨by simp,by simp,.inl ⟨rfl,by simp⟩⟩,by simp[As.foot,Value.ownBlock]⟩
  ·exact h.mine x hx⟩
theorem L.nilSl{l:List Oper}(e:TypeId)(k:Nat)(h:L P ops Q n (Cls w0 own (.sl (.slice none 0 0) e k []::m)) l fs):L P ops Q n (Cls w0 own m) l fs:=fun a w hs hw=>h a w hs (hw.nilSl e k)
theorem W.nilSl{c:Code}(e:TypeId)(k:Nat)(h:W P Q n (Cls w0 own (.sl (.slice none 0 0) e k []::m)) c fs):W P Q n (Cls w0 own m) c fs:=fun a w hs hw=>h a w hs (hw.nilSl e k)
theorem E.nilSl{x:Exit}(e:TypeId)(k:Nat)(h:E x Q n (Cls w0 own (.sl (.slice none 0 0) e k []::m)) fs):E x Q n (Cls w0 own m) fs:=fun a w hs hw=>h a w hs (hw.nilSl e k)
theorem Plain.one{r:List Value}(h:∀u∈r,u.oneCell'=true):Plain [r]:=by
 intro q hq
 simp only[List.mem_singleton]at hq
 subst hq
 exact h
def I(x:Int):List Value:=[.int .i64 x]
def ints(l:List Int):List (List Value):=l.map I
def B(x:Bool):List Value:=[.bool x]
def qi5(l:List Bool):List (List Value):=l.map B
def vsl(l:List Value):List (List Value):=l.map fun v=>[v]
@[simp] theorem qkT(l:List Int):(ints l).length=l.length:=by simp[ints]
@[simp] theorem qj5(l:List Bool):(qi5 l).length=l.length:=by simp[qi5]
@[simp] theorem qln(l:List Value):(vsl l).length=l.length:=by simp[vsl]
theorem zb(l:List Int):Plain (ints l):=by
 intro r hr u hu
 simp only[ints,List.mem_map]at hr
 obtain⟨x,_,rfl⟩:=hr
 simp only[I,List.mem_singleton]at hu
 subst hu;rfl
theorem yi(l:List Bool):Plain (qi5 l):=by
 intro r hr u hu
 simp only[qi5,List.mem_map]at hr
 obtain⟨x,_,rfl⟩:=hr
 simp only[B,List.mem_singleton]at hu
 subst hu;rfl
theorem qkP{α:Type}{f:α→List Value}{l:List α}{i:Nat}{x:α}(h:l[i]?=some x):(l.map f)[i]?=some (f x):=by simp[h]
end Go.S
end
section
namespace Go.S
variable{P:Program}{Q:Exit→Act→World→Prop}{n:Nat}{fs:Fr}{t:TypeId}{ops:Array Oper}{rest:List Oper}{d:Nat}{pos:String}{af:Array Edge}
variable{w0:World}{own:List Nat}{m:List As}
theorem yt{k:Nat}:∀(rows:List (List Value)) (i j:Nat) (r:List Value) (u:Value),(∀r∈rows,r.length=k)→rows[i]?=some r→j<k→(rows.set i (r.set j u)).flatten=rows.flatten.set (i*k+j) u
 | [],i,j,r,u,_,h,_=>by simp at h
 | q::rows,0,j,r,u,hl,h,hj=>by
  simp only[List.getElem?_cons_zero,Option.some.injEq]at h
  subst h
  have hq:=hl q (by simp)
  simp only[List.set_cons_zero,List.flatten_cons,Nat.zero_mul,Nat.zero_add]
  rw[List.set_append,if_pos (by omega)]
 | q::rows,i+1,j,r,u,hl,h,hj=>by
  have hq:q.length=k:=hl q (by simp)
  simp only[List.getElem?_cons_succ]at h
  simp only[List.set_cons_succ,List.flatten_cons]
  rw[yt rows i j r u (fun r hr=>hl r (by simp[hr])) h hj,List.set_append,if_neg (by rw[hq,Nat.succ_mul];omega),hq,show(i+1)*k+j-k=i*k+j by rw[Nat.succ_mul];omega]
theorem qiQ(z:Array Value)(l k:Nat)(hz:z.size=k)(hk:0<k):((Array.range (l*k)).map (z[·%z.size]!)).toList=(List.replicate l z.toList).flatten:=by
 apply List.ext_getElem?
 intro j
 by_cases hj:j<l*k
 ·have h1:j/k<l:=(Nat.div_lt_iff_lt_mul hk).2 hj
  have h2:j%k<z.toList.length:=by simp[hz];exact Nat.mod_lt _ hk
  have hf:=qR (k:=k) (List.replicate l z.toList) (j/k) (j%k) z.toList (z.toList[j%k]'h2) (by intro r hr;rw[List.mem_replicate]at hr;rw[hr.2];simp[hz]) (by simp[h1]) (List.getElem?_eq_getElem h2)
  have e:j/k*k+j%k=j:=by rw[Nat.mul_comm];exact Nat.div_add_mod j k
  rw[e]at hf
  rw[hf]
  have h3:j%k<z.size:=by simpa using h2
  simp[hj,hz,getElem!_pos z (j%k) h3]
 ·rw[List.getElem?_eq_none (by simp;omega),List.getElem?_eq_none (by simp[hz];omega)]
def qdX(v:Value)(h:Nat):Value:=match v with
 | .slice a _ c=>.slice a h c
 | v=>v
def zh(v:Value)(l k:Nat):Value:=match v with
 | .slice a len c=>.slice (if c-l=0 then a else a.map (·.add (l*k))) (len-l) (c-l)
 | v=>v
theorem At.take{w:World}{v:Value}{k:Nat}{rows:List (List Value)}(h:At w v k rows)(j:Nat)(hj:j≤rows.length):At w (qdX v j) k (rows.take j):=by
 refine⟨?_,fun r hr=>h.len r (List.mem_of_mem_take hr),fun i r q x h1 h2=>?_⟩
 ·rcases h.shape with⟨rfl,rfl⟩|⟨a,cap,rfl,h1,h2⟩
  ·have:j=0:=by simpa using hj
   subst this
   exact .inl ⟨rfl,by simp⟩
  ·refine .inr ⟨a,cap,?_,?_,h2⟩
   ·simp[qdX,List.length_take,Nat.min_eq_left hj]
   ·simp[List.length_take];omega
 ·have hi:rows[i]?=some r:=by
   rw[List.getElem?_take]at h1
   split at h1
   ·exact h1
   ·cases h1
  have:=h.cell i r q x hi h2
  rcases h.shape with⟨rfl,rfl⟩|⟨a,cap,rfl,_,_⟩
  ·simp at hi
  ·exact this
theorem At.drop{w:World}{v:Value}{k:Nat}{rows:List (List Value)}(h:At w v k rows)(l:Nat)(hl:l≤rows.length):At w (zh v l k) k (rows.drop l):=by
 refine⟨?_,fun r hr=>h.len r (List.mem_of_mem_drop hr),fun i r q x h1 h2=>?_⟩
 ·rcases h.shape with⟨rfl,rfl⟩|⟨a,cap,rfl,h1,h2⟩
  ·exact .inl ⟨by simp[zh],by simp⟩
  ·by_cases hc:cap-l=0
   ·exact .inr ⟨a,0,by simp[zh,hc],by simp;omega,by simp[maxLen]⟩
   ·exact .inr ⟨a.add (l*k),cap-l,by simp[zh,hc],by simp;omega,by omega⟩
 ·rw[List.getElem?_drop]at h1
  have:=h.cell (l+i) r q x h1 h2
  rcases h.shape with⟨rfl,rfl⟩|⟨a,cap,rfl,hc,_⟩
  ·simp at h1
  ·have hlt:=(List.getElem?_eq_some_iff.1 h1).1
   have hne : ¬(cap-l=0):=by omega
   simp only[zh,hne,if_false,adr,Option.map_some]at this ⊢
   rw[add_add,←Nat.add_assoc,←Nat.add_mul]
   exact this
theorem fj{C:World→Prop}{x y:Operand}{v:Value}{e tx:TypeId}{k:Nat}{rows:List (List Value)}{ik:IntKind}{h:Int}(hu:P.underlying tx=some (.slice e))(hs:szB P e k=true)(hx:val fs x=some v)(hy:val fs y=some (.int ik h))(hA:∀w,C w→At w v k rows)(h0:0≤h)(h1:h≤rows.length) :
  Y P (.slice tx x none (some y) none) t n fs C (qdX v h.toNat):=
 bE fun d pos af g s w hsl hw=>by
  simp only[execOp,hsl.eval hx,hsl.eval hy,Option.map_some,Option.map_none]
  rcases(hA w hw).shape with⟨rfl,rfl⟩|⟨a,cap,rfl,hc,_⟩
  ·have hz:h=0:=by simp at h1;omega
   subst hz
   have hr:=run_slice_h (P:=P) w tx none 0 0 (qr hu) ik 0 (by omega) (by omega)
   rw[ze hu,qt hs]at hr
   simp[run_sliceAt_slice w tx _ _ _ _ (qr hu),hr,sliced,qdX]
  ·have hr:=run_slice_h (P:=P) w tx (some a) rows.length cap (qr hu) ik h h0 (by omega)
   rw[ze hu,qt hs]at hr
   simp[run_sliceAt_slice w tx _ _ _ _ (qr hu),hr,sliced,qdX]
   intro _
   simp[Addr.add]
theorem eP{C:World→Prop}{x y:Operand}{v:Value}{e tx:TypeId}{k:Nat}{rows:List (List Value)}{ik:IntKind}{h:Int}(hu:P.underlying tx=some (.slice e))(hs:szB P e k=true)(hx:val fs x=some v)(hy:val fs y=some (.int ik h))(hA:∀w,C w→At w v k rows)(h0:0≤h)(h1:h≤rows.length) :
  Y P (.slice tx x (some y) none none) t n fs C (zh v h.toNat k):=
 bE fun d pos af g s w hsl hw=>by
  simp only[execOp,hsl.eval hx,hsl.eval hy,Option.map_some,Option.map_none]
  rcases(hA w hw).shape with⟨rfl,rfl⟩|⟨a,cap,rfl,hc,_⟩
  ·have hz:h=0:=by simp at h1;omega
   subst hz
   have hr:=run_slice_l (P:=P) w tx none 0 0 (qr hu) ik 0 (by omega) (by omega)
   rw[ze hu,qt hs]at hr
   simp[run_sliceAt_slice w tx _ _ _ _ (qr hu),hr,sliced,zh]
  ·have hr:=run_slice_l (P:=P) w tx (some a) rows.length cap (qr hu) ik h h0 (by omega)
   rw[ze hu,qt hs]at hr
   have e1:(cap=h.toNat)=(cap-h.toNat=0):=by apply propext;omega
   simp[run_sliceAt_slice w tx _ _ _ _ (qr hu),hr,sliced,zh,e1]
theorem At.one{w:World}{v:Value}{k:Nat}{rows:List (List Value)}(h:At w v k rows):v.oneCell'=true:=by
 rcases h.shape with⟨rfl,_⟩|⟨_,_,rfl,_⟩<;>rfl
theorem cL{C:World→Prop}{f:FuncId}{xs:List Operand}{vs:List Value}(hx:vals fs xs=some vs):Y P (.makeFunc (.func f) #[] xs.toArray) t n fs C (.func (.func f) #[] vs.toArray):=
 bE fun d pos af g s w hs hw=>by
  have h1:=hs.evals hx
  simp only[execOp,List.map_toArray,h1]
  simp[Instr.makeFunc]
theorem aI{x:Operand}{v:Value}{e tx:TypeId}{by':Nat}(hd:Nat.blt d n=true)(hu:P.underlying tx=some (.slice e))(he:xf P e 1 by'=true)(hx:val fs x=some v)(hv:v.cells=#[v])
  (next:∀b,L P ops Q n (Cls w0 own (.sl (sv b 1) e 1 [[v]]::m)) rest ((d,sv b 1)::fs)):L P ops Q n (Cls w0 own m) (⟨some d,.buildSlice tx 1 #[(0,x)],t,pos,af,none⟩::rest) fs:=
 eH hd hu he rfl hx (by rw[hv]) rfl next
theorem cm{x:Operand}{vs:List Value}{e tx:TypeId}{k by':Nat}(hd:Nat.blt d n=true)(hu:P.underlying tx=some (.slice e))(he:xf P e k by'=true)(hk16:Nat.ble k 1000=true)(hx:val fs x=some (.agg vs.toArray))(hk:vs.length=k)
  (next:∀b,L P ops Q n (Cls w0 own (.sl (sv b 1) e k [vs]::m)) rest ((d,sv b 1)::fs)):L P ops Q n (Cls w0 own m) (⟨some d,.buildSlice tx 1 #[(0,x)],t,pos,af,none⟩::rest) fs:=
 eH hd hu he hk16 hx (by simp[Value.cells]) hk next
theorem aj{C D:World→Prop}{l:List Oper}(hd:∀w,C w→D w)(h:L P ops Q n D l fs):L P ops Q n C l fs:=fun a w hs hc=>h a w hs (hd w hc)
theorem bC{C D:World→Prop}{c:Code}(hd:∀w,C w→D w)(h:W P Q n D c fs):W P Q n C c fs:=fun a w hs hc=>h a w hs (hd w hc)
end Go.S
end
section
namespace Go.S
open Go.ChangeShapes Go.WideShapes Go.ChangeAt Go.RowKit
def Rd(P:Program)(w:World)(t:TypeId)(cs:List Value):Prop:=
 ∃(H:Type) (enc:TypeId×Value→H) (fuel:Nat) (held:Bool) (base:Nat) (x:DataW H×List MemPlace),DataW.trod enc P w base (fun _=>true) held fuel t cs=some x
theorem qoo{l:List Value}(h:l.length=6):∃a0 a1 a2 a3 a4 a5,l=[a0,a1,a2,a3,a4,a5]:=by
 match l,h with
 | [a0,a1,a2,a3,a4,a5],_=>exact⟨_,_,_,_,_,_,rfl⟩
section
variable{P:Program}{w:World}{t:TypeId}{cs:List Value}
theorem Rd.of{H:Type}{enc:TypeId×Value→H}{v:Value}{d:DataW H}{ps:List MemPlace}(h:DataW.Trod enc P w 0 (fun _=>true) true t v d ps):Rd P w t v.cells.toList:=by
 obtain⟨fuel,hf⟩:=h
 exact⟨H,enc,fuel,true,0,_,hf⟩
theorem Rd.int{k:IntKind}(ht:P.underlying t=some (.int k))(h:Rd P w t cs):∃n,cs=[.int k n]∧(Lit.int k n).wf=true:=by
 obtain⟨H,enc,fuel,held,base,x,h⟩:=h
 obtain⟨n,h1,_,h2⟩:=DataW.trod_int ht h
 exact⟨n,h1,h2⟩
theorem Rd.bool(ht:P.underlying t=some .bool)(h:Rd P w t cs):∃b,cs=[.bool b]:=by
 obtain⟨H,enc,fuel,held,base,x,h⟩:=h
 obtain⟨b,h1,_⟩:=DataW.trod_bool ht h
 exact⟨b,h1⟩
theorem Rd.str(ht:P.underlying t=some .string)(h:Rd P w t cs):∃l,cs=[st l]∧l.length≤maxLen:=by
 obtain⟨H,enc,fuel,held,base,x,h⟩:=h
 obtain⟨s,h1,_,h2⟩:=DataW.trod_string ht h
 exact⟨s.data.toList,by rw[h1];rfl,by rw[Array.length_toList];exact h2⟩
theorem Rd.slice{e:TypeId}{k:Nat}(ht:P.underlying t=some (.slice e))(hk:P.cellsOf e=k)(h:Rd P w t cs):∃v rows,cs=[v]∧At w v k rows∧∀r∈rows,Rd P w e r:=by
 subst hk
 obtain⟨H,enc,fuel,held,base,x,h⟩:=h
 rcases Go.Deep.open_slice ht h with⟨rfl,_⟩|⟨a,len,cap,m,n,D,Pl,rfl,hb,hl,hm,hmm,_,hi⟩
 ·exact⟨_,[],rfl,At.nil w _,by simp⟩
 ·have hm':m=cap:=by simpa using hmm
  subst hm'
  have hrow:∀i:Fin len,∃cs',w.cells? base (a.add (i.val*P.cellsOf e)) (P.cellsOf e)=some cs'∧Rd P w e cs':=fun i=>by
   obtain⟨cs',h1,h2⟩:=hi i.val (by omega)
   exact⟨cs',h1,H,enc,n,held,base,_,h2⟩
  let rows:=List.ofFn fun i:Fin len=>Classical.choose (hrow i)
  have hlen:rows.length=len:=List.length_ofFn
  have hget:∀(i:Nat) (r:List Value),rows[i]?=some r→w.cells? base (a.add (i*P.cellsOf e)) (P.cellsOf e)=some r∧Rd P w e r:=by
   intro i r hr
   obtain⟨hlt,he⟩:=List.getElem?_eq_some_iff.1 hr
   have hil:i<len:=by omega
   have hs:=Classical.choose_spec (hrow ⟨i,hil⟩)
   have:r=Classical.choose (hrow ⟨i,hil⟩):=by rw[←he];simp[rows]
   rw[this];exact hs
  refine⟨_,rows,rfl,⟨.inr ⟨a,m,by rw[hlen],by omega,hm⟩,fun r hr=>?_,fun i r j x hr hx=>?_⟩,fun r hr=>?_⟩
  ·obtain⟨i,hi'⟩:=List.getElem?_of_mem hr
   exact(World.cells?_some (hget i r hi').1).2.1
  ·obtain⟨_,h2,h3⟩:=World.cells?_some (hget i r hr).1
   have hj:=(List.getElem?_eq_some_iff.1 hx).1
   rw[←add_add]
   exact(h3 j (by omega)).trans hx
  ·obtain⟨i,hi'⟩:=List.getElem?_of_mem hr
   exact(hget i r hi').2
theorem Rd.struct{fs:Array Field}(ht:P.underlying t=some (.struct fs))(h:Rd P w t cs):cs.length=P.cellsOf t∧∀(i:Nat) (f:Field),fs[i]?=some f→Rd P w f.type ((cs.drop f.offset).take (P.cellsOf f.type)):=by
 obtain⟨H,enc,fuel,held,base,x,h⟩:=h
 obtain⟨xs,n,_,_,hl,hx,hf⟩:=DataW.trod_struct ht h
 refine⟨hl,fun i f hi=>?_⟩
 have:=hf i f hi
 have hil:i<xs.length:=by rw[hx];exact(Array.getElem?_eq_some_iff.1 hi).1
 rw[List.getElem?_eq_getElem hil]at this
 exact⟨H,enc,n,held,base,_,this⟩
theorem Rd.fld{fs:Array Field}(ht:P.underlying t=some (.struct fs))(h:Rd P w t cs)(i:Nat)(u:TypeId)(o c:Nat)(hi:(fs[i]?).map (fun f=>(f.type,f.offset))=some (u,o))(hc:P.cellsOf u=c):Rd P w u ((cs.drop o).take c):=by
 cases hf:fs[i]? with
 | none=>rw[hf]at hi;cases hi
 | some f =>
  rw[hf]at hi
  simp only[Option.map_some,Option.some.injEq,Prod.mk.injEq]at hi
  obtain⟨rfl,rfl⟩:=hi
  subst hc
  exact(h.struct ht).2 i f hf
theorem ws{α:Type}{f:α→List Value}{Q:α→Prop}:∀{rows:List (List Value)},(∀r∈rows,∃x,r=f x∧Q x)→∃l:List α,rows=l.map f∧∀x∈l,Q x
 | [],_=>⟨[],rfl,by simp⟩
 | r::rows,h=>by
  obtain⟨x,hx,hq⟩:=h r (by simp)
  obtain⟨l,hl,hql⟩:=ws (fun r hr=>h r (by simp[hr]):∀r∈rows,∃x,r=f x∧Q x)
  refine⟨x::l,by rw[hx,hl];rfl,fun y hy=>?_⟩
  rcases List.mem_cons.1 hy with rfl|hy
  ·exact hq
  ·exact hql y hy
theorem Rd.ints{e:TypeId}(ht:P.underlying t=some (.slice e))(he:P.underlying e=some (.int .i64))(hk:P.cellsOf e=1)(h:Rd P w t cs):∃v l,cs=[v]∧At w v 1 (ints l)∧∀x∈l,(Lit.int .i64 x).wf=true:=by
 obtain⟨v,rows,h1,h2,h3⟩:=h.slice ht hk
 obtain⟨l,rfl,hq⟩:=ws (f:=I) (Q:=fun x=>(Lit.int .i64 x).wf=true) (fun r hr=>by
  obtain⟨n,hn,hw⟩:=(h3 r hr).int he
  exact⟨n,hn,hw⟩)
 exact⟨v,l,h1,h2,hq⟩
end
section
variable{H:Type}{enc:TypeId×Value→H}{P:Program}
theorem vt(hl:laidOutB P=true){W W':World}(hb:Below W.heap.size W W'):∀(ts:List TypeId) (vs:List Value) (ds:List (DataW H)) (ps:List MemPlace),(∀t∈ts,P.readableRec t=true∧t<P.types.size) →
  DataW.TrodAll enc P W 0 (fun _=>true) true ts vs ds ps→(∀p∈ps,p.block<W.heap.size)→∀sp:Nat→Bool,(∀p∈ps,sp p.block=true)→DataW.TrodAll enc P W' 0 sp true ts vs ds ps
 | [],vs,ds,ps,_,h,_,_,_=>by
  cases vs<;>cases ds<;>simp only[DataW.TrodAll]at h ⊢
  exact h
 | t::ts,vs,ds,ps,ht,h,hlt,sp,hsp=>by
  obtain⟨v,vs',d,ds',p,q,rfl,rfl,rfl,h1,h2⟩:=trodAll_cons h
  obtain⟨hr,hs⟩:=ht t (by simp)
  refine⟨p,q,WideElems.Trod_stays hl hr hs h1 (fun x hx=>hb.same (hlt x (by simp[hx]))) (fun x hx=>hsp x (by simp[hx])),?_,rfl⟩
  exact vt hl hb ts vs' ds' q (fun t' ht'=>ht t' (by simp[ht'])) h2 (fun x hx=>hlt x (by simp[hx])) sp (fun x hx=>hsp x (by simp[hx]))
theorem qiR{f:Func}{s:ChangeSpec}{tb:TypeId}{W W':World}{args:Array Value}{ds gs:List (DataW H)}{before:List MemPlace}(hl:laidOutB P=true)(hr:f.params.toList.all (fun t=>P.readableRec t&&Nat.blt t P.types.size)=true)
  (hres:f.resultTypes=#[tb]) (htb:P.underlying tb=some .bool) (hvars:s.vars=[]) (hfn:(s.fn H (ds++[])).results=[.lit (.bool true)]∧(s.fn H (ds++[])).args=ds∧(s.fn H (ds++[])).vars=[])
  (hW:DataW.Whole enc P f.params.toList s.vars false W args.toList ds gs before) (hb:Below W.heap.size W W'):s.post enc P f false true false false W args (.bool true) W':=by
 have hr:∀t∈f.params.toList,P.readableRec t=true∧t<P.types.size:=fun t ht=>by
  have:=List.all_eq_true.1 hr t ht
  rw[Bool.and_eq_true]at this
  exact⟨this.1,by simpa [Nat.blt_eq]using this.2⟩
 have hW0:=hW
 have hlt:∀p∈before,p.block<W.heap.size:=fun p hp=>hW0.lt p hp
 obtain⟨p,q,hA,hV,rfl,hz,hn⟩:=hW
 rw[hvars]at hV
 obtain⟨rfl,rfl⟩:=trodVars_none hV
 simp only[List.append_nil]at hlt hW0 hz
 obtain⟨hf1,hf2,hf3⟩:=hfn
 have hold:∀x∈p,(fun b=>decide (b<W.heap.size)) x.block=true:=fun x hx=>by simpa using hlt x hx
 have hargs:∀sp:Nat→Bool,(∀x∈p,sp x.block=true)→DataW.TrodAll enc P W' 0 sp true f.params.toList args.toList (s.fn H (ds++[])).args p:=fun sp hsp=>by
  rw[hf2];exact vt hl hb _ _ _ _ hr hA hlt sp hsp
 have hvs:∀sp:Nat→Bool,DataW.TrodVars enc P W' sp s.vars (s.fn H (ds++[])).vars []:=fun sp=>by rw[hvars,hf3];rfl
 have hresult:∀(b:Nat) (sp:Nat→Bool) (hd:Bool),DataW.TrodAll enc P W' b sp hd f.resultTypes.toList ((Value.bool true).resultList f.resultTypes.size) (s.fn H (ds++[])).results []:=fun b sp hd=>by
  rw[hres,hf1];exact trodAll_cons_mk (shut_bool htb _) trodAll_mk0
 refine⟨ds,[],p,[],p,[],hW0,hresult _ _ _,hargs _ hold,hvs _,World.keptBut_mono (fun x hx=>⟨hx,by simpa using hx⟩) (hb.frame (·∈p)),fun _=>?_⟩
 refine⟨ok_one hres rfl (okWide_bool_mk htb _),_,_,([]++p)++[],⟨[]++p,[],trodAll_append (hargs _ (fun _ _=>rfl)) (hresult _ _ _),hvs _,rfl,?_,?_⟩,?_⟩
 ·intro b off hp
  have hin:MemPlace.cell b off∈p:=by simpa using hp
  rw[hb.frozen (hlt _ hin)]
  exact hz b off (by simpa using hin)
 ·intro ha;cases ha
 ·intro x hx _
  simpa using hx
end
end Go.S
end
section
namespace Go.S
def big:Nat:=1180591620717411303424
theorem qv:big=1180591620717411303424:=rfl
def i64(x:Int):Option Int:=if -9223372036854775808≤x∧x≤9223372036854775807 then some x else none
def idx{α:Type}(l:List α)(i:Int):Option α:=if 0≤i then l[i.toNat]? else none
def qaj(l:List UInt8)(i:Int):Option Int:=if 0≤i then(l[i.toNat]?).map fun b=>(b.toNat:Int) else none
def upd{α:Type}(l:List α)(i:Int)(x:α):Option (List α):=if 0≤i∧i<l.length then some (l.set i.toNat x) else none
def cut{α:Type}(l:List α)(a b:Int):Option (List α):=if 0≤a∧a≤b∧b≤l.length then some ((l.take b.toNat).drop a.toNat) else none
def app{α:Type}(l m:List α):Option (List α):=if l.length+m.length≤2513169434916 then some (l++m) else none
def kp(l m:List UInt8):Option (List UInt8):=if l.length+m.length≤9223372036854775807 then some (l++m) else none
def mk{α:Type}(n:Int)(z:α):Option (List α):=if 0≤n∧n≤1000000 then some (List.replicate n.toNat z) else none
def qb{α ρ:Type}(o:Option α)(f:α→Option ρ):Option ρ:=match o with
 | some x=>f x
 | none=>none
def qo{α β ρ:Type}(o:Option (α×β))(f:α→β→Option ρ):Option ρ:=match o with
 | some (x,y)=>f x y
 | none=>none
def qI{α β γ ρ:Type}(o:Option (α×β×γ))(f:α→β→γ→Option ρ):Option ρ:=match o with
 | some (x,y,z)=>f x y z
 | none=>none
@[simp] theorem qa{α ρ:Type}(x:α)(f:α→Option ρ):qb (some x) f=f x:=rfl
@[simp] theorem qlv{α ρ:Type}(f:α→Option ρ):qb none f=none:=rfl
@[simp] theorem qe{α β ρ:Type}(x:α)(y:β)(f:α→β→Option ρ):qo (some (x,y)) f=f x y:=rfl
@[simp] theorem qg{α β γ ρ:Type}(x:α)(y:β)(z:γ)(f:α→β→γ→Option ρ):qI (some (x,y,z)) f=f x y z:=rfl
theorem qq{α ρ:Type}{o:Option α}{f:α→Option ρ}{r:ρ}(h:qb o f=some r):∃x,o=some x∧f x=some r:=by
 cases o with
 | none=>cases h
 | some x=>exact⟨x,rfl,h⟩
theorem qmw{α β ρ:Type}{o:Option (α×β)}{f:α→β→Option ρ}{r:ρ}(h:qo o f=some r):∃x y,o=some (x,y)∧f x y=some r:=by
 cases o with
 | none=>cases h
 | some p=>exact⟨p.1,p.2,rfl,h⟩
theorem qmv{α β γ ρ:Type}{o:Option (α×β×γ)}{f:α→β→γ→Option ρ}{r:ρ}(h:qI o f=some r):∃x y z,o=some (x,y,z)∧f x y z=some r:=by
 cases o with
 | none=>cases h
 | some p=>exact⟨p.1,p.2.1,p.2.2,rfl,h⟩
theorem qT{ρ:Type}{A B:Option ρ}{r:ρ}(h:(if true=true then A else B)=some r):A=some r:=h
theorem qU{ρ:Type}{A B:Option ρ}{r:ρ}(h:(if false=true then A else B)=some r):B=some r:=by simpa using h
theorem vA{x y:Int}(h:i64 x=some y):y=x∧-9223372036854775808≤x∧x≤9223372036854775807:=by
 unfold i64 at h
 split at h
 ·simp only[Option.some.injEq]at h;exact⟨h.symm,by assumption⟩
 ·cases h
theorem qk{x:Int}(h0 : -9223372036854775808≤x)(h1:x≤9223372036854775807):i64 x=some x:=if_pos ⟨h0,h1⟩
theorem qf{α:Type}{l:List α}{i:Int}{x:α}(h:idx l i=some x):0≤i∧i<l.length∧l[i.toNat]?=some x:=by
 unfold idx at h
 split at h
 ·have:=(List.getElem?_eq_some_iff.1 h).1
  exact⟨by assumption,by omega,h⟩
 ·cases h
theorem ql{α:Type}{f:α→List Value}{l:List α}{i:Int}{x:α}(h:idx l i=some x):(l.map f)[i.toNat]?=some (f x):=qkP (qf h).2.2
theorem jw{α:Type}(l:List α)(i:Nat):idx l (i:Int)=l[i]?:=by simp[idx]
theorem qhf{l:List UInt8}{i y:Int}(h:qaj l i=some y):0≤i∧∃b,l[i.toNat]?=some b∧y=b.toNat:=by
 unfold qaj at h
 split at h
 ·cases hb:l[i.toNat]? with
  | none=>rw[hb]at h;cases h
  | some b=>rw[hb]at h;simp only[Option.map_some,Option.some.injEq]at h;exact⟨by assumption,b,rfl,h.symm⟩
 ·cases h
theorem vq{α:Type}{l l':List α}{i:Int}{x:α}(h:upd l i x=some l'):0≤i∧i<l.length∧l'=l.set i.toNat x:=by
 unfold upd at h
 split at h
 ·rename_i hc;simp only[Option.some.injEq]at h;exact⟨hc.1,hc.2,h.symm⟩
 ·cases h
theorem zm{α:Type}{l l':List α}{a b:Int}(h:cut l a b=some l'):0≤a∧a≤b∧b≤l.length∧l'=(l.take b.toNat).drop a.toNat:=by
 unfold cut at h
 split at h
 ·rename_i hc;simp only[Option.some.injEq]at h;exact⟨hc.1,hc.2.1,hc.2.2,h.symm⟩
 ·cases h
theorem qja{α:Type}{l m l':List α}(h:app l m=some l'):l'=l++m∧l.length+m.length≤2513169434916:=by
 unfold app at h
 split at h
 ·simp only[Option.some.injEq]at h;exact⟨h.symm,by assumption⟩
 ·cases h
theorem qhG{l m l':List UInt8}(h:kp l m=some l'):l'=l++m∧l.length+m.length≤9223372036854775807:=by
 unfold kp at h
 split at h
 ·simp only[Option.some.injEq]at h;exact⟨h.symm,by assumption⟩
 ·cases h
section
variable{P:Program}{Q:Exit→Act→World→Prop}{n:Nat}{C:World→Prop}{fs:Fr}{ops:Array Oper}{rest:List Oper}{d:Nat}{op:Op}{t:TypeId}{pos:String}{af:Array Edge}
variable{α ρ:Type}{r:ρ}
theorem fT{o:Option α}{f:α→Option ρ}{V:α→Value}(h:qb o f=some r)(hd:Nat.blt d n=true)(hy:∀x,o=some x→Y P op t n fs C (V x))(k:∀x,o=some x→f x=some r→L P ops Q n C rest ((d,V x)::fs)) :
  L P ops Q n C (⟨some d,op,t,pos,af,none⟩::rest) fs:=by
 obtain⟨x,hx,h⟩:=qq h
 exact fS hd (hy x hx) (k x hx h)
theorem fR{o:Option α}{f:α→Option ρ}{V:α→Value}(h:qb o f=some r)(hd:Nat.blt d n=true)(hy:∀x,o=some x→Y P op t n fs C (V x))(k:∀x,o=some x→f x=some r→U P ops Q n C rest ((d,V x)::fs)) :
  U P ops Q n C (⟨some d,op,t,pos,af,none⟩::rest) fs:=by
 obtain⟨x,hx,h⟩:=qq h
 exact fQ hd (hy x hx) (k x hx h)
theorem dU{p:Prop}[Decidable p]{A B:Option ρ}(h:(if p then A else B)=some r)(hd:Nat.blt d n=true)(hy:Y P op t n fs C (.bool (decide p)))(k1:p→A=some r→L P ops Q n C rest ((d,.bool true)::fs))(k2 : ¬p→B=some r→L P ops Q n C rest ((d,.bool false)::fs)) :
  L P ops Q n C (⟨some d,op,t,pos,af,none⟩::rest) fs:=
 eZ hd hy (fun hp=>k1 hp (by rwa [if_pos hp]at h)) (fun hp=>k2 hp (by rwa [if_neg hp]at h))
theorem da{p:Prop}[Decidable p]{A B:Option ρ}(h:(if p then A else B)=some r)(hd:Nat.blt d n=true)(hy:Y P op t n fs C (.bool (decide p)))(k1:p→A=some r→U P ops Q n C rest ((d,.bool true)::fs))(k2 : ¬p→B=some r→U P ops Q n C rest ((d,.bool false)::fs)) :
  U P ops Q n C (⟨some d,op,t,pos,af,none⟩::rest) fs:=
 eX hd hy (fun hp=>k1 hp (by rwa [if_pos hp]at h)) (fun hp=>k2 hp (by rwa [if_neg hp]at h))
theorem ft{b:Bool}{A B:Option ρ}(h:(if b=true then A else B)=some r)(hd:Nat.blt d n=true)(hy:Y P op t n fs C (.bool b))(k1:b=true→A=some r→L P ops Q n C rest ((d,.bool true)::fs))(k2 : ¬b=true→B=some r→L P ops Q n C rest ((d,.bool false)::fs)) :
  L P ops Q n C (⟨some d,op,t,pos,af,none⟩::rest) fs:=
 eh hd hy (fun hp=>k1 hp (by rwa [if_pos hp]at h)) (fun hp=>k2 (by simp[hp]) (by rwa [if_neg (by simp[hp])]at h))
theorem cT{b:Bool}{A B:Option ρ}(h:(if b=true then A else B)=some r)(hd:Nat.blt d n=true)(hy:Y P op t n fs C (.bool b))(k1:b=true→A=some r→U P ops Q n C rest ((d,.bool true)::fs))(k2 : ¬b=true→B=some r→U P ops Q n C rest ((d,.bool false)::fs)) :
  U P ops Q n C (⟨some d,op,t,pos,af,none⟩::rest) fs:=
 ef hd hy (fun hp=>k1 hp (by rwa [if_pos hp]at h)) (fun hp=>k2 (by simp[hp]) (by rwa [if_neg (by simp[hp])]at h))
def KL(Q:Exit→Act→World→Prop)(n:Nat)(J:Nat→Fr→(World→Prop)→Prop)(m:Nat):Exit→Act→World→Prop:=
 Exit.then (fun a w=>∃m' gs' D',J m' gs' D'∧m'<m∧Slots n gs' a∧D' w) Q
def KS(Q:Exit→Act→World→Prop)(n:Nat)(J:Fr→(World→Prop)→Prop):Exit→Act→World→Prop:=
 Exit.then (fun a w=>∃gs' D',J gs' D'∧Slots n gs' a∧D' w) Q
theorem au{c:Code}(J:Nat→Fr→(World→Prop)→Prop){m0:Nat}{gs:Fr}{D:World→Prop}(h0:J m0 gs D)(hF:Sub gs fs)(hD:∀w,C w→D w)
  (round:∀m gs D,J m gs D→W P (KL Q n J m) n D c gs):W P Q n C (.loop c) fs:=
 fk (X:=Nat×Fr×(World→Prop)) (fun p=>p.2.1) (fun p=>p.2.2) (fun p=>J p.1 p.2.1 p.2.2) (fun p=>p.1) (m0,gs,D) h0 hF hD fun p hp a w hs hc =>
  Code.wp_mono (fun e a w h=>by
   cases e with
   | normal=>obtain⟨m',gs',D',h1,h2,h3,h4⟩:=h;exact⟨(m',gs',D'),h1,h2,h3,h4⟩
   | _=>exact h) (round p.1 p.2.1 p.2.2 hp a w hs hc)
theorem ar{x y:Code}(J:Fr→(World→Prop)→Prop)(h1:W P (KS Q n J) n C x fs)(h2:∀gs D,J gs D→W P Q n D y gs):W P Q n C (.seq x y) fs:=
 aE fun a w hs hc=>Code.wp_mono (fun e a w h=>by
   cases e with
   | normal=>obtain⟨gs',D',h3,h4,h5⟩:=h;exact h2 gs' D' h3 a w h4 h5
   | _=>exact h) (h1 a w hs hc)
theorem eA{J:Nat→Fr→(World→Prop)→Prop}{m m':Nat}{gs:Fr}{D:World→Prop}(h:J m' gs D)(hm:m'<m)(hF:Sub gs fs)(hD:∀w,C w→D w):E .normal (KL Q n J m) n C fs:=
 fun _ w hs hc=>⟨m',gs,D,h,hm,hs.sub hF,hD w hc⟩
theorem bB{J:Fr→(World→Prop)→Prop}{gs:Fr}{D:World→Prop}(h:J gs D)(hF:Sub gs fs)(hD:∀w,C w→D w):E .normal (KS Q n J) n C fs:=
 fun _ w hs hc=>⟨gs,D,h,hs.sub hF,hD w hc⟩
theorem dA{J:Nat→Fr→(World→Prop)→Prop}{m id:Nat}(h:E (.exit id) Q n C fs):E (.exit id) (KL Q n J m) n C fs:=h
theorem cH{J:Nat→Fr→(World→Prop)→Prop}{m:Nat}(h:E .ret Q n C fs):E .ret (KL Q n J m) n C fs:=h
theorem bW{J:Fr→(World→Prop)→Prop}(h:E .ret Q n C fs):E .ret (KS Q n J) n C fs:=h
theorem wt{β:Type}:∀(l:List β) (i:Nat) (x:β),l[i]?=some x→l.Perm (x::l.eraseIdx i)
 | [],i,x,h=>by simp at h
 | y::l,0,x,h=>by
  simp only[List.getElem?_cons_zero,Option.some.injEq]at h
  subst h;exact List.Perm.refl _
 | y::l,i+1,x,h=>by
  rw[List.eraseIdx_cons_succ]
  exact(List.Perm.cons y (wt l i x (by simpa using h))).trans (List.Perm.swap x y _)
theorem qbg{β:Type}:∀(n:Nat) {l:List β} {is:List Nat} {m':List β},is.length=n→is.Nodup→is.map (l[·]?)=m'.map some→∃rest,l.Perm (m'++rest):=by
 intro n
 induction n with
 | zero =>
  intro l is m' hlen _ hm
  obtain rfl:=List.length_eq_zero_iff.1 hlen
  cases m' with
  | nil=>exact⟨l,by simp⟩
  | cons x m'=>simp at hm
 | succ n ih =>
  intro l is m' hlen hn hm
  cases is with
  | nil=>simp at hlen
  | cons i is =>
  cases m' with
  | nil=>simp at hm
  | cons x m' =>
   simp only[List.map_cons,List.cons.injEq]at hm
   obtain⟨hi,hm⟩:=hm
   obtain⟨hlt,hx⟩:=List.getElem?_eq_some_iff.1 hi
   rw[List.nodup_cons]at hn
   have key:(is.map fun j=>if j<i then j else j-1).map ((l.eraseIdx i)[·]?)=m'.map some:=by
    rw[←hm,List.map_map]
    apply List.map_congr_left
    intro j hj
    have hne:j≠i:=fun h=>hn.1 (h▸hj)
    simp only[Function.comp]
    by_cases hji:j<i
    ·rw[if_pos hji,List.getElem?_eraseIdx_of_lt hji]
    ·rw[if_neg hji,List.getElem?_eraseIdx_of_ge (by omega),show j-1+1=j by omega]
   have hn':(is.map fun j=>if j<i then j else j-1).Nodup:=by
    rw[List.Nodup,List.pairwise_map]
    refine hn.2.imp_of_mem ?_
    intro a b ha hb hab
    have ha':a≠i:=fun h=>hn.1 (h▸ha)
    have hb':b≠i:=fun h=>hn.1 (h▸hb)
    split<;>split<;>omega
   obtain⟨rest,hp⟩:=ih (by simpa using hlen) hn' key
   refine⟨rest,?_⟩
   exact(wt l i x hi).trans (List.Perm.cons x hp)
theorem Cls.sel{w0 w:World}{own:List Nat}{m m':List As}(is:List Nat)(h:Cls w0 own m w)(hn:is.Nodup)(hm:is.map (m[·]?)=m'.map some):Cls w0 own m' w:=by
 obtain⟨rest,hp⟩:=qbg _ rfl hn hm
 exact(h.perm hp.symm).sublist (List.sublist_append_left _ _)
variable{x y z:Operand}{a b:Int}{tx ty:TypeId}
theorem bh(hx:val fs x=some (.int .i64 a))(hy:val fs y=some (.int .i64 b))(u:Int)(h:i64 (a+b)=some u):Y P (.binOp .add tx x y ty) t n fs C (.int .i64 u):=by
 obtain⟨rfl,h0,h1⟩:=vA h
 exact Y.add hx hy (i64_in h0 h1)
theorem bj(hx:val fs x=some (.int .i64 a))(hy:val fs y=some (.int .i64 b))(u:Int)(h:i64 (a-b)=some u):Y P (.binOp .sub tx x y ty) t n fs C (.int .i64 u):=by
 obtain⟨rfl,h0,h1⟩:=vA h
 exact Y.sub hx hy (i64_in h0 h1)
theorem df(hx:val fs x=some (.int .i64 a))(hy:val fs y=some (.int .i64 b))(u:Int)(h:i64 (a*b)=some u):Y P (.binOp .mul tx x y ty) t n fs C (.int .i64 u):=by
 obtain⟨rfl,h0,h1⟩:=vA h
 exact fB hx hy (i64_in h0 h1)
theorem bg{l m:List UInt8}(hx:val fs x=some (st l))(hy:val fs y=some (st m))(u:List UInt8)(h:kp l m=some u):Y P (.binOp .add tx x y ty) t n fs C (st u):=by
 obtain⟨rfl,h1⟩:=qhG h
 exact fD hx hy h1
theorem bk{l:List UInt8}{k:IntKind}(hu:P.underlying tx=some .string)(hx:val fs x=some (st l))(hy:val fs y=some (.int k a))(u:Int)(h:qaj l a=some u):Y P (.index tx x y) t n fs C (.int .u8 u):=by
 obtain⟨h0,b,hb,rfl⟩:=qhf h
 exact d7 hu hx hy h0 hb
theorem cQ{l:List UInt8}{k k':IntKind}(hu:P.underlying tx=some .string)(hx:val fs x=some (st l))(hy:val fs y=some (.int k a))(hz:val fs z=some (.int k' b))(u:List UInt8)(h:cut l a b=some u) :
  Y P (.slice tx x (some y) (some z) none) t n fs C (st u):=by
 obtain⟨h0,h1,h2,rfl⟩:=zm h
 exact dB hu hx hy hz h0 h1 h2
theorem bn{l:List UInt8}{k':IntKind}(hu:P.underlying tx=some .string)(hx:val fs x=some (st l))(hz:val fs z=some (.int k' b))(u:List UInt8)(h:cut l 0 b=some u) :
  Y P (.slice tx x none (some z) none) t n fs C (st u):=by
 obtain⟨_,h1,h2,rfl⟩:=zm h
 exact dZ hu hx hz h1 h2
theorem aU{l:List UInt8}{k:IntKind}(hu:P.underlying tx=some .string)(hx:val fs x=some (st l))(hy:val fs y=some (.int k a))(u:List UInt8)(h:cut l a l.length=some u) :
  Y P (.slice tx x (some y) none none) t n fs C (st u):=by
 obtain⟨h0,h1,_,rfl⟩:=zm h
 rw[Int.toNat_natCast,List.take_length]
 exact dY hu hx hy h0 h1
theorem aF{α:Type}{g:α→List Value}{v:Value}{k:Nat}{l:List α}{e:TypeId}(hu:P.underlying tx=some (.slice e))(hx:val fs x=some v)(hA:∀w,C w→At w v k (l.map g)):Y P (.call ⟨.builtin .len,#[x],#[tx]⟩) t n fs C (.int .i64 l.length):=by
 have:=eD (t:=t) (n:=n) hu hx hA
 rwa [List.length_map]at this
theorem ap{α:Type}{g:α→List Value}{v:Value}{k:Nat}{l:List α}{ik:IntKind}{e:TypeId}(hu:P.underlying tx=some (.slice e))(hsz:szB P e k=true)(hx:val fs x=some v)(hy:val fs y=some (.int ik a))(hA:∀w,C w→At w v k (l.map g))(u:α)(h:idx l a=some u) :
  Y P (.indexAddr tx x y) t n fs C (el v (a.toNat*k)):=by
 obtain⟨h0,h1,_⟩:=qf h
 exact di hu hsz hx hy hA h0 (by rwa [List.length_map])
end
end Go.S
end
section
namespace Go.S
def qcT(k:IntKind)(a b:Int):Option Int:=if b≠0 then some (k.wrap (a.tdiv b)) else none
def qew(a b:Int):Option Int:=if b≠0 then some (a.tmod b) else none
def qgu(k:IntKind)(a b:Int):Option Int:=if 0≤b∧b≤k.bits then some (k.wrap (a*2 ^ b.toNat)) else none
def qgt(k:IntKind)(a b:Int):Option Int:=if 0≤b∧b≤k.bits then some (a/2 ^ b.toNat) else none
def qmo(k:IntKind)(a:Int):Int:=Go.bits BinOp.xor k (if k.signed=true then -1 else k.max) a
def IK(k:IntKind)(x:Int):List Value:=[.int k x]
def SR(x:List UInt8):List Value:=[st x]
def bytesOf(l:List Int):List UInt8:=l.map fun n=>UInt8.ofNat n.toNat
theorem qet{k:IntKind}(l:List Int):Plain (l.map (IK k)):=by
 intro r hr u hu
 obtain⟨x,_,rfl⟩:=List.mem_map.1 hr
 simp only[IK,List.mem_singleton]at hu
 subst hu;rfl
theorem qi(l:List (List UInt8)):Plain (l.map SR):=by
 intro r hr u hu
 obtain⟨x,_,rfl⟩:=List.mem_map.1 hr
 simp only[SR,List.mem_singleton]at hu
 subst hu;rfl
section
variable{P:Program}{Q:Exit→Act→World→Prop}{n:Nat}{C:World→Prop}{fs:Fr}{ops:Array Oper}{rest:List Oper}{d:Nat}{op:Op}{t:TypeId}{pos:String}{af:Array Edge}
variable{ρ:Type}{r:ρ}{x y:Operand}{a b:Int}{tx ty:TypeId}{k:IntKind}
theorem cu(hx:val fs x=some (.int k a))(hy:val fs y=some (.int k b))(u:Int)(h:qcT k a b=some u):Y P (.binOp .quo tx x y ty) t n fs C (.int k u):=by
 unfold qcT at h
 split at h
 ·simp only[Option.some.injEq]at h
  subst h
  rename_i hb
  exact bE fun d pos af g s w hs _=>by simp only[execOp,hs.eval hx,hs.eval hy];simp[go_sem,hb]
 ·cases h
theorem cn(hx:val fs x=some (.int k a))(hy:val fs y=some (.int k b))(u:Int)(h:qew a b=some u):Y P (.binOp .rem tx x y ty) t n fs C (.int k u):=by
 unfold qew at h
 split at h
 ·simp only[Option.some.injEq]at h
  subst h
  exact fe hx hy (by assumption)
 ·cases h
theorem dC{yk:IntKind}(hx:val fs x=some (.int k a))(hy:val fs y=some (.int yk b))(u:Int)(h:qgu k a b=some u):Y P (.binOp .shl tx x y ty) t n fs C (.int k u):=by
 unfold qgu at h
 split at h
 ·simp only[Option.some.injEq]at h
  subst h
  rename_i hb
  exact fy hx hy hb.1 hb.2
 ·cases h
theorem cJ{yk:IntKind}(hx:val fs x=some (.int k a))(hy:val fs y=some (.int yk b))(u:Int)(h:qgt k a b=some u):Y P (.binOp .shr tx x y ty) t n fs C (.int k u):=by
 unfold qgt at h
 split at h
 ·simp only[Option.some.injEq]at h
  subst h
  rename_i hb
  exact fx hx hy hb.1 hb.2
 ·cases h
theorem eQ(hx:val fs x=some (.int k a))(hy:val fs y=some (.int k b)):Y P (.binOp .and tx x y ty) t n fs C (.int k (Go.bits .and k a b)):=Y.bits (.inl rfl) hx hy
theorem fA(hx:val fs x=some (.int k a))(hy:val fs y=some (.int k b)):Y P (.binOp .or tx x y ty) t n fs C (.int k (Go.bits .or k a b)):=Y.bits (.inr (.inl rfl)) hx hy
theorem eF(hx:val fs x=some (.int k a)):Y P (.unOp .xor tx x) t n fs C (.int k (qmo k a)):=fC hx
theorem bt{src dst e:TypeId}{v:Value}{l:List Int}(hs:P.underlying src=some (.slice e))(he:P.underlying e=some (.int .u8))(hd:P.underlying dst=some .string)(hx:val fs x=some v)(hA:∀w,C w→At w v 1 (l.map (IK .u8))) :
  Y P (.convert src dst x) t n fs C (st (bytesOf l)):=
 bE fun d pos af g a w hsl hw=>by
  simp only[execOp,hsl.eval hx]
  have hat:=hA w hw
  rcases hat.shape with⟨rfl,hr⟩|⟨ad,cap,hv,hl,hm⟩
  ·have:l=[]:=by simpa using hr
   subst this
   have:=run_convert_bytes_nil (P:=P) w src e hs he 0 0 dst hd
   simp[this,bytesOf,st];rfl
  ·have hcells:(loadCells ad l.length).run P w=.ok (l.map (Value.int .u8)).toArray w:=by
    have:=run_loadCells_list (P:=P) w ad (l.map (Value.int .u8)) (fun j u hj=>by
     have hx':(l.map (IK .u8))[j]?=some [u]:=by
      rw[List.getElem?_map]at hj ⊢
      cases hl':l[j]? with
      | none=>rw[hl']at hj;cases hj
      | some z=>rw[hl']at hj;simp only[Option.map_some,Option.some.injEq]at hj ⊢;rw[←hj];rfl
     have:=hat.cell j [u] 0 u hx' rfl
     rw[hv]at this
     simpa [adr]using this)
    simpa using this
   rw[List.length_map]at hv
   subst hv
   have hc:(convert src dst (.slice (some ad) l.length cap)).run P w=.ok (st (bytesOf l)) w:=by
    rw[run_convert_bytes_string w src dst e _ l.length cap hs he hd,run_bytesToString w _ l.length cap l hcells,foldl_push_bytes]
    simp[bytesOf,st,ByteArray.empty,ByteArray.emptyWithCapacity]
    rfl
   simp[hc]
theorem bc{α:Type}{g:α→List Value}{w0:World}{own:List Nat}{m:List As}{i:Nat}{v u:Value}{e:TypeId}{k by':Nat}{l more:List α}{f:List α→Option ρ}(h:qb (app l more) f=some r)(hd:Nat.blt d n=true)(hu:P.underlying tx=some (.slice e))(he:xf P e k by'=true)
  (hx:val fs x=some v) (hy:val fs y=some u) (hm:m[i]?=some (.sl v e k (l.map g))) (hB:∀w,Cls w0 own m w→At w u k (more.map g)) (hp:Plain (more.map g)) (hb:Nat.ble by' 56=true)
  (next:∀v' z,app l more=some z→f z=some r→L P ops Q n (Cls w0 own (.sl v' e k (z.map g)::m.eraseIdx i)) rest ((d,v')::fs)) :
  L P ops Q n (Cls w0 own m) (⟨some d,.call ⟨.builtin .append,#[x,y],#[tx,tx]⟩,t,pos,af,none⟩::rest) fs:=by
 obtain⟨z,hz,h⟩:=qq h
 obtain⟨rfl,hl⟩:=qja hz
 have hb':by'≤56:=by simpa using hb
 refine ey hd hu he hx hy hm hB hp (by simp only[List.length_map];unfold maxLen;omega) ?_ fun v'=>?_
 ·simp only[List.length_map]
  calc (l.length+more.length)*by'≤2513169434916*56:=Nat.mul_le_mul hl hb'
   _≤_:=by decide
 ·rw[←List.map_append];exact next v' _ hz h
end
end Go.S
end
section
namespace Go.S
def xd:Op→Bool
 | .move _ | .assign _ | .pick .. | .load .. | .binOp .. | .unOp .. | .convert .. | .makeFunc .. | .slice .. | .fieldAddr .. | .indexAddr .. | .index .. | .extract .. | .build .. | .lookup ..=>true
 | .call ⟨.builtin .len,_,_⟩ | .call ⟨.builtin .max,_,_⟩ | .call ⟨.builtin .min,_,_⟩=>true
 | _=>false
section
variable{P:Program}{Q:Exit→Act→World→Prop}{n:Nat}{C D:World→Prop}{fs:Fr}{ops:Array Oper}{d:Nat}{op:Op}{t:TypeId}{pos:String}{af:Array Edge}{listed:Array Bool}{k i:Nat}{g:Option (Nat×Bool)}
theorem qeh{α:Type}{s:Sem α}{f:α→Value}{w:World}{v:Value}(h:Oper.quietUpon P C w v ((do pure (Next.value (f (←s))):Sem Next).run P w)):(do pure (Next.value (f (←s))):Sem Next).run P w=.ok (.value v) w:=by
 simp only[Sem.run_bind]at h ⊢
 cases hr:s.run P w with
 | ok u w' =>
  rw[hr]at h
  simp only[Result.andThen_ok,Sem.run_pure,Oper.quietUpon]at h ⊢
  obtain⟨rfl,rfl⟩:=h
  rfl
 | halt x w'=>rw[hr]at h;simp[Result.andThen,Oper.quietUpon]at h
theorem qiz{r:Result Value}{w:World}{v:Value}(h:Oper.quietUpon P C w v (r.andThen fun a w'=>.ok (Next.value a) w')):(r.andThen fun a w'=>Result.ok (Next.value a) w')=.ok (.value v) w:=by
 cases r with
 | ok u w'=>simp only[Result.andThen,Oper.quietUpon]at h ⊢;obtain⟨rfl,rfl⟩:=h;rfl
 | halt x w'=>simp[Result.andThen,Oper.quietUpon]at h
theorem Y.strict{v:Value}(hp:xd op=true)(hy:Y P op t n fs C v)(d:Option Tmp)(pos:String)(af:Array Edge)(g:Option (Nat×Bool)){a:Act}{w:World}(hs:Slots n fs a)(hc:C w) :
  (execOp a.eval ⟨d,op,t,pos,af,g⟩).run P w=.ok (.value v) w:=by
 have h:=hy d pos af g a w hs hc
 by_cases hcall:∃c,op=.call c
 ·obtain⟨⟨cal,xs,ts⟩,rfl⟩:=hcall
  cases cal with
  | builtin b =>
   cases b<;>first|(simp only[xd,Bool.false_eq_true]at hp;done)|skip
   all_goals
    simp only[execOp,resolve,invoke,builtin,Sem.run_bind,Sem.run_pure,Result.andThen_ok]at h ⊢
    exact qiz h
  | _=>simp only[xd,Bool.false_eq_true]at hp
 cases op<;>first|exact absurd ⟨_,rfl⟩ hcall|skip
 all_goals (simp only[xd,Bool.false_eq_true]at hp)
 all_goals (simp only[execOp]at h ⊢)
 all_goals first
  | exact qeh (f:=id) h
  | (simp only[Sem.run_pure,Oper.quietUpon]at h ⊢;obtain⟨_,rfl⟩:=h;rfl)
  | exact qeh (f:=fun b=>if b=true then _ else _) h
def V(P:Program)(ops:Array Oper)(Q:Exit→Act→World→Prop)(n:Nat)(listed:Array Bool)(k:Nat)(C D:World→Prop)(fs:Fr):Prop:=
 ∀a w,Slots n fs a→C w→D w→wpAnyH P .any ops (NoPanic Q) D k listed a w
def jk(ops:Array Oper)(fs:Fr):Option (Nat×Bool)→Bool
 | none=>true
 | some (j,b)=>match gd ops fs j with
  | some (.bool c)=>c == b
  | _=>false
def qak(ops:Array Oper)(fs:Fr):Option (Nat×Bool)→Bool
 | none=>false
 | some (j,b)=>match gd ops fs j with
  | some (.bool c)=>!(c == b)
  | some _=>true
  | none=>false
theorem xt{a:Act}(hs:Slots n fs a)(o:Option Tmp)(h:jk ops fs g=true):Region.wanted ⟨o,op,t,pos,af,g⟩ (yielded ops a.tmps)=true:=by
 match g with
 | none=>rfl
 | some (j,b)=>
  simp only[jk]at h
  split at h
  ·rename_i c hc
   have:c=b:=by simpa using h
   subst this
   exact v7 hs hc o
  ·cases h
theorem zq{a:Act}(hs:Slots n fs a)(o:Option Tmp)(h:qak ops fs g=true):Region.wanted ⟨o,op,t,pos,af,g⟩ (yielded ops a.tmps)=false:=by
 match g with
 | none=>cases h
 | some (j,b)=>
  simp only[qak]at h
  split at h
  ·rename_i c hc
   refine jo hs hc ?_ o
   intro he
   simp only[Value.bool.injEq]at he
   subst he
   simp at h
  ·rename_i v hne hc
   exact jo hs hc (fun he=>hne b he) o
  ·cases h
structure Nx(ops:Array Oper)(listed:Array Bool)(i:Nat)(o:Oper):Prop where
 at_:ops[i]?=some o
 sel:Region.noSelect ops=true
 free:Region.free .any ops listed i=true
 ready:(Region.ready .any ops listed).contains i=true
def nxB(ops:Array Oper)(listed:Array Bool)(i:Nat):Bool:=Region.noSelect ops&&Region.free .any ops listed i&&(Region.ready .any ops listed).contains i
theorem Nx.of{o:Oper}(h:nxB ops listed i=true)(ho:ops[i]?=some o):Nx ops listed i o:=by
 simp only[nxB,Bool.and_eq_true]at h
 exact⟨ho,h.1.1,h.1.2,h.2⟩
theorem V.y{v:Value}(hn:Nx ops listed i ⟨some d,op,t,pos,af,g⟩)(hg:jk ops fs g=true)(hp:xd op=true)(hd:Nat.blt d n=true)(hy:Y P op t n fs D v)
  (next:V P ops Q n (listed.setIfInBounds i true) k C D ((d,v)::fs)):V P ops Q n listed (k+1) C D fs:=by
 intro a w hs hc hdw
 exact wpAnyH_take hn.at_ hn.sel hn.free hn.ready (fun _ _ _ h=>h) (.inl ⟨xt hs _ hg,fun w' hw'=>hy.strict hp _ _ _ _ hs hw'⟩) hdw (next _ w (hs.put hd v) hc hdw)
theorem V.nilc{x:Operand}{ad:Addr}(hn:Nx ops listed i ⟨some d,.nilCheck x,t,pos,af,g⟩)(hg:jk ops fs g=true)(hd:Nat.blt d n=true)(hx:val fs x=some (.pointer (some ad)))
  (next:V P ops Q n (listed.setIfInBounds i true) k C D ((d,.pointer (some ad))::fs)):V P ops Q n listed (k+1) C D fs:=by
 intro a w hs hc hdw
 exact wpAnyH_take hn.at_ hn.sel hn.free hn.ready (fun _ _ _ h=>h) (.inl ⟨xt hs _ hg,fun w' hw'=>by simp only[execOp,hs.eval hx];simp⟩) hdw (next _ w (hs.put hd _) hc hdw)
theorem V.pass(hn:Nx ops listed i ⟨some d,op,t,pos,af,g⟩)(hg:qak ops fs g=true)(hd:Nat.blt d n=true)
  (next:V P ops Q n (listed.setIfInBounds i true) k C D ((d,undef)::fs)):V P ops Q n listed (k+1) C D fs:=by
 intro a w hs hc hdw
 exact wpAnyH_take hn.at_ hn.sel hn.free hn.ready (fun _ _ _ h=>h) (.inr ⟨zq hs _ hg,rfl⟩) hdw (next _ w (hs.put hd _) hc hdw)
theorem V.passNone(hn:Nx ops listed i ⟨none,op,t,pos,af,g⟩)(hg:qak ops fs g=true)
  (next:V P ops Q n (listed.setIfInBounds i true) k C D fs):V P ops Q n listed (k+1) C D fs:=by
 intro a w hs hc hdw
 exact wpAnyH_take hn.at_ hn.sel hn.free hn.ready (fun _ _ _ h=>h) (.inr ⟨zq hs _ hg,rfl⟩) hdw (next _ w hs hc hdw)
theorem V.done(hr:(Region.ready .any ops listed).isEmpty=true)(h:E .normal Q n C fs):V P ops Q n listed k C D fs:=by
 intro a w hs hc hdw
 exact wpAnyH_done (Q:=NoPanic Q) (List.isEmpty_iff.1 hr) (NoPanic.normal (h a w hs hc)) _
section
variable{α ρ:Type}{r:ρ}
theorem V.m{o:Option α}{f:α→Option ρ}{V':α→Value}(h:qb o f=some r)(hn:Nx ops listed i ⟨some d,op,t,pos,af,g⟩)(hg:jk ops fs g=true)(hp:xd op=true)(hd:Nat.blt d n=true)
  (hy:∀x,o=some x→Y P op t n fs D (V' x)) (next:∀x,o=some x→f x=some r→V P ops Q n (listed.setIfInBounds i true) k C D ((d,V' x)::fs)):V P ops Q n listed (k+1) C D fs:=by
 obtain⟨x,hx,h⟩:=qq h
 exact V.y hn hg hp hd (hy x hx) (next x hx h)
theorem V.ite{p:Prop}[Decidable p]{A B:Option ρ}(h:(if p then A else B)=some r)(hn:Nx ops listed i ⟨some d,op,t,pos,af,g⟩)(hg:jk ops fs g=true)(hp:xd op=true)(hd:Nat.blt d n=true)
  (hy:Y P op t n fs D (.bool (decide p))) (k1:p→A=some r→V P ops Q n (listed.setIfInBounds i true) k C D ((d,.bool true)::fs)) (k2 : ¬p→B=some r→V P ops Q n (listed.setIfInBounds i true) k C D ((d,.bool false)::fs)) :
  V P ops Q n listed (k+1) C D fs:=by
 by_cases hq:p
 ·exact V.y hn hg hp hd (by simpa [hq]using hy) (k1 hq (by rwa [if_pos hq]at h))
 ·exact V.y hn hg hp hd (by simpa [hq]using hy) (k2 hq (by rwa [if_neg hq]at h))
theorem V.iteB{b:Bool}{A B:Option ρ}(h:(if b=true then A else B)=some r)(hn:Nx ops listed i ⟨some d,op,t,pos,af,g⟩)(hg:jk ops fs g=true)(hp:xd op=true)(hd:Nat.blt d n=true)
  (hy:Y P op t n fs D (.bool b)) (k1:b=true→A=some r→V P ops Q n (listed.setIfInBounds i true) k C D ((d,.bool true)::fs)) (k2 : ¬b=true→B=some r→V P ops Q n (listed.setIfInBounds i true) k C D ((d,.bool false)::fs)) :
  V P ops Q n listed (k+1) C D fs:=by
 cases b with
 | true=>exact V.y hn hg hp hd hy (k1 rfl h)
 | false=>exact V.y hn hg hp hd hy (k2 (by simp) (by simpa using h))
end
def KV(P:Program)(ops:Array Oper)(Q:Exit→Act→World→Prop)(D:World→Prop)(k:Nat)(listed:Array Bool):Exit→Act→World→Prop:=
 fun e a w=>e=.normal∧D w∧wpAnyH P .any ops (NoPanic Q) D k listed a w
theorem ql3 : ¬LetsOut (KV P ops Q D k listed):=fun⟨_,_,h,_⟩=>by cases h
theorem vZ{o:Oper}{a:Act}{w:World}(hi:ops[i]?=some o)(h:wpList P ops (KV P ops Q D k listed) [o] a w):wpOp P ops (NoPanic Q) i (fun a' w'=>D w'∧wpAnyH P .any ops (NoPanic Q) D k listed a' w') a w:=by
 have hK:∀a w,wpList P ops (KV P ops Q D k listed) [] a w→D w∧wpAnyH P .any ops (NoPanic Q) D k listed a w:=fun a w h=>h.2
 unfold wpOp
 simp only[hi]
 simp only[wpList]at h
 by_cases hw:Region.wanted o (yielded ops a.tmps)=true
 ·simp only[hw,if_true]at h ⊢
  rcases h with h|⟨_,h⟩
  ·refine .inl ?_
   unfold Oper.wp at *
   generalize (execOp a.eval o).run P w=r at *
   cases r with
   | ok x w' =>
    cases x<;>simp only[Oper.upon]at h ⊢
    case value u=>exact h.2
    case skip=>exact h.2
    case defer d=>exact h.2
    case enter f args =>
     refine Calls.mono h fun e w'' he=>?_
     cases e with
     | returned u=>exact he.2
     | panicked c=>exact absurd he.1 (by nofun)
     | outgrown=>exact(ql3 he).elim
    case row row args=>exact Rows.mono h fun u w'' he=>he.2
   | halt x w' =>
    cases x<;>simp only[Oper.upon]at h ⊢
    case panic u=>exact absurd h.1 (by nofun)
  ·exact(ql3 h).elim
 ·simp only[hw,Bool.false_eq_true,if_false]at h ⊢
  exact h.2
theorem V.eff{o:Oper}(hr:Region.ready .any ops listed=[i])(hi:ops[i]?=some o)(h:L P ops (KV P ops Q D k (listed.setIfInBounds i true)) n C [o] fs):V P ops Q n listed (k+1) C D fs:=by
 intro a w hs hc hdw
 refine wpAnyH_all hr (by nofun) fun j hj=>?_
 rw[List.mem_singleton]at hj
 subst hj
 exact vZ hi (h a w hs hc)
theorem V.eff2{i1 i2:Nat}{o1 o2:Oper}(hr:Region.ready .any ops listed=[i1,i2])(h1:ops[i1]?=some o1)(h2:ops[i2]?=some o2)(k1:L P ops (KV P ops Q D k (listed.setIfInBounds i1 true)) n C [o1] fs)(k2:L P ops (KV P ops Q D k (listed.setIfInBounds i2 true)) n C [o2] fs) :
  V P ops Q n listed (k+1) C D fs:=by
 intro a w hs hc hdw
 refine wpAnyH_all hr (by nofun) fun j hj=>?_
 simp only[List.mem_cons,List.not_mem_nil,or_false]at hj
 rcases hj with rfl|rfl
 ·exact vZ h1 (k1 a w hs hc)
 ·exact vZ h2 (k2 a w hs hc)
theorem W.drawn{id:Nat}{l:List Oper}(hk:l.length=k)(hm:P.follows .mixedOrders=true)(hdrew:∀w,C w→C { w with drawn:=w.drawn+1 })(hd:∀w,C w→D w)
  (h:V P l.toArray Q n (Array.replicate k false) k C D fs):W P Q n C (.region id l.toArray true) fs:=by
 subst hk
 exact fun a _w hs hc=>wp_region_noPanic (wp_region_held_drew hm (hd _ (hdrew _ hc)) fun hs'=>by simpa using h a _ hs (hdrew _ hc) hs')
end
end Go.S
end
section
namespace Go.S
section
variable{P:Program}{Q:Exit→Act→World→Prop}{n n':Nat}{C:World→Prop}{fs:Fr}{ops:Array Oper}{rest:List Oper}{d:Nat}{t:TypeId}{pos:String}{af:Array Edge}
def KC(J:Value→(World→Prop)→Prop):Ending→World→Prop:=fun e w=>∃v D,e=.returned v∧J v D∧D w
theorem qcq{f:FuncId}{xs:List Operand}{ts:Array TypeId}{vs:List Value}(he:kn P f=true)(hx:vals fs xs=some vs){a:Act}(hs:Slots n fs a)(w:World)(o:Option Tmp) :
  (execOp a.eval ⟨o,.call ⟨.value (.func f),xs.toArray,ts⟩,t,pos,af,none⟩).run P w=.ok (.enter f vs.toArray) w:=by
 have h1:=hs.evals hx
 simp only[execOp,resolve,List.map_toArray,h1]
 simp[Act.eval,Deferred.ofValue,invoke,wV he]
theorem qgO{f:FuncId}{x:Operand}{cap:List Value}{xs:List Operand}{ts:Array TypeId}{vs:List Value}(he:kn P f=true)(hf:val fs x=some (.func (.func f) #[] cap.toArray))(hx:vals fs xs=some vs){a:Act}(hs:Slots n fs a)(w:World)(o:Option Tmp) :
  (execOp a.eval ⟨o,.call ⟨.value x,xs.toArray,ts⟩,t,pos,af,none⟩).run P w=.ok (.enter f (vs++cap).toArray) w:=by
 have h1:=hs.evals hx
 simp only[execOp,resolve,List.map_toArray,h1,hs.eval hf]
 simp[Deferred.ofValue,invoke,wV he]
theorem dq{op:Op}{o:Option Tmp}{f:FuncId}{fn:Func}{c:Code}{vs:List Value}(J:Value→(World→Prop)→Prop)
  (hr:∀a w,Slots n fs a→(execOp a.eval ⟨o,op,t,pos,af,none⟩).run P w=.ok (.enter f vs.toArray) w)
  (hf:P.funcs[f]?=some fn) (hb:fn.body=some c) (hn:fn.ntmps=n') (hl:Nat.ble vs.length n'=true) (h1:W P (bodyPost P fn (KC J)) n' C c (args 0 vs))
  (h2:∀v D a w,J v D→D w→Slots n fs a→wpList P ops Q rest (a.put o v) w):L P ops Q n C (⟨o,op,t,pos,af,none⟩::rest) fs:=by
 intro a w hs hw
 simp only[wpList,Region.wanted,if_true]
 refine .inl ?_
 unfold Oper.wp
 rw[hr a w hs]
 refine(body hf hb hn hl hw h1).mono ?_
 rintro e w' ⟨v,D,rfl,hj,hd⟩
 exact h2 v D a w' hj hd hs
theorem bQ{f:FuncId}{fn:Func}{c:Code}{xs:List Operand}{ts:Array TypeId}{vs:List Value}(J:Value→(World→Prop)→Prop)(hd:Nat.blt d n=true)(he:kn P f=true)(hx:vals fs xs=some vs)
  (hf:P.funcs[f]?=some fn) (hb:fn.body=some c) (hn:fn.ntmps=n') (hl:Nat.ble vs.length n'=true) (h1:W P (bodyPost P fn (KC J)) n' C c (args 0 vs))
  (h2:∀v D,J v D→L P ops Q n D rest ((d,v)::fs)):L P ops Q n C (⟨some d,.call ⟨.value (.func f),xs.toArray,ts⟩,t,pos,af,none⟩::rest) fs:=
 dq J (fun _ w hs=>qcq he hx hs w _) hf hb hn hl h1 fun v D _ w hj hD hs=>h2 v D hj _ w (hs.put hd v) hD
theorem bu{f:FuncId}{fn:Func}{c:Code}{x:Operand}{cap:List Value}{xs:List Operand}{ts:Array TypeId}{vs:List Value}(J:Value→(World→Prop)→Prop)(hd:Nat.blt d n=true)(he:kn P f=true)(hv:val fs x=some (.func (.func f) #[] cap.toArray))(hx:vals fs xs=some vs)
  (hf:P.funcs[f]?=some fn) (hb:fn.body=some c) (hn:fn.ntmps=n') (hl:Nat.ble (vs++cap).length n'=true) (h1:W P (bodyPost P fn (KC J)) n' C c (args 0 (vs++cap)))
  (h2:∀v D,J v D→L P ops Q n D rest ((d,v)::fs)):L P ops Q n C (⟨some d,.call ⟨.value x,xs.toArray,ts⟩,t,pos,af,none⟩::rest) fs:=
 dq J (fun _ w hs=>qgO he hv hx hs w _) hf hb hn hl h1 fun v D _ w hj hD hs=>h2 v D hj _ w (hs.put hd v) hD
theorem Slots.again{a:Act}{k:Nat}{v:Value}(hv:look fs k=some v)(h:Slots n fs a):Slots n ((k,v)::fs) a:=
 ⟨h.defers,h.size,fun q u hq=>by
  simp only[look]at hq
  cases hb:Nat.beq k q with
  | true =>
   have:k=q:=Nat.eq_of_beq_eq_true hb
   simp only[hb,Option.some.injEq]at hq
   subst this;subst hq
   exact h.here _ _ hv
  | false=>simp only[hb]at hq;exact h.here q u hq⟩
section
variable{ρ:Type}{r:ρ}{A B:Option ρ}{b:Bool}{q:Nat}
theorem eS{c:Code}(h:(if b=true then A else B)=some r)(hv:look fs q=some (.bool b))(k1:A=some r→W P Q n C c ((q,.bool true)::fs))(k2:B=some r→W P Q n C c ((q,.bool false)::fs)):W P Q n C c fs:=by
 cases b with
 | true=>exact fun a w hs hc=>k1 h a w (hs.again hv) hc
 | false=>exact fun a w hs hc=>k2 (by simpa using h) a w (hs.again hv) hc
theorem fG{l:List Oper}(h:(if b=true then A else B)=some r)(hv:look fs q=some (.bool b))(k1:A=some r→L P ops Q n C l ((q,.bool true)::fs))(k2:B=some r→L P ops Q n C l ((q,.bool false)::fs)):L P ops Q n C l fs:=by
 cases b with
 | true=>exact fun a w hs hc=>k1 h a w (hs.again hv) hc
 | false=>exact fun a w hs hc=>k2 (by simpa using h) a w (hs.again hv) hc
theorem fE{l:List Oper}(h:(if b=true then A else B)=some r)(hv:look fs q=some (.bool b))(k1:A=some r→U P ops Q n C l ((q,.bool true)::fs))(k2:B=some r→U P ops Q n C l ((q,.bool false)::fs)):U P ops Q n C l fs:=by
 cases b with
 | true=>exact fun a hs=>k1 h a (hs.again hv)
 | false=>exact fun a hs=>k2 (by simpa using h) a (hs.again hv)
theorem V.caseB{listed:Array Bool}{k:Nat}{D:World→Prop}(h:(if b=true then A else B)=some r)(hv:look fs q=some (.bool b))(k1:A=some r→V P ops Q n listed k C D ((q,.bool true)::fs))(k2:B=some r→V P ops Q n listed k C D ((q,.bool false)::fs)):V P ops Q n listed k C D fs:=by
 cases b with
 | true=>exact fun a w hs hc hd=>k1 h a w (hs.again hv) hc hd
 | false=>exact fun a w hs hc hd=>k2 (by simpa using h) a w (hs.again hv) hc hd
end
end
end Go.S
end
section
namespace Go.S
theorem qef(x:Int):IntKind.wrap .u8 x=x%256:=by simp[IntKind.wrap,IntKind.signed,IntKind.bits]
theorem qaZ(x:Int):IntKind.wrap .u32 x=x%4294967296:=by simp[IntKind.wrap,IntKind.signed,IntKind.bits]
theorem qF(x:Int):IntKind.wrap .u64 x=x%18446744073709551616:=by simp[IntKind.wrap,IntKind.signed,IntKind.bits]
theorem xk{x:Int}(h0 : -9223372036854775808≤x)(h1:x≤9223372036854775807):IntKind.wrap .i64 x=x:=i64_in h0 h1
theorem qfJ{x:Int}(h0:9223372036854775808≤x)(h1:x<18446744073709551616):IntKind.wrap .i64 x=x-18446744073709551616:=by
 have h:IntKind.wrap .i64 x=if x%18446744073709551616≥9223372036854775808 then x%18446744073709551616-18446744073709551616 else x%18446744073709551616:=by simp[IntKind.wrap,IntKind.signed,IntKind.bits]
 rw[h,if_pos (by omega)];omega
theorem zn(k:IntKind)(hs:k.signed=false)(a:Nat)(h:a<2 ^ k.bits):k.wrap (a:Int)=(a:Int):=by
 have h2:((a:Int))%(2 ^ k.bits:Int)=(a:Int):=by
  rw[show(2 ^ k.bits:Int)=((2 ^ k.bits:Nat):Int) by push_cast;rfl,←Int.natCast_emod,Nat.mod_eq_of_lt h]
 simp only[IntKind.wrap,hs,Bool.false_and,Bool.false_eq_true,if_false,h2]
theorem p64:2 ^ IntKind.u64.bits=18446744073709551616:=by decide
theorem p32:2 ^ IntKind.u32.bits=4294967296:=by decide
theorem ym(n a:Nat):BitVec.ofInt n (a:Int)=BitVec.ofNat n a:=by simp
theorem wE(k:IntKind)(hs:k.signed=false)(a b:Nat)(ha:a<2 ^ k.bits)(hb:b<2 ^ k.bits):Go.bits .and k (a:Int) (b:Int)=((a &&& b:Nat):Int):=by
 simp only[Go.bits,ym,BitVec.toNat_and,BitVec.toNat_ofNat,Nat.mod_eq_of_lt ha,Nat.mod_eq_of_lt hb]
 exact zn k hs _ (Nat.lt_of_le_of_lt Nat.and_le_left ha)
theorem vo(k:IntKind)(hs:k.signed=false)(a b:Nat)(ha:a<2 ^ k.bits)(hb:b<2 ^ k.bits):Go.bits .or k (a:Int) (b:Int)=((a ||| b:Nat):Int):=by
 simp only[Go.bits,ym,BitVec.toNat_or,BitVec.toNat_ofNat,Nat.mod_eq_of_lt ha,Nat.mod_eq_of_lt hb]
 exact zn k hs _ (Nat.or_lt_two_pow ha hb)
theorem qcW(k:IntKind)(hs:k.signed=false)(a b:Nat)(ha:a<2 ^ k.bits)(hb:b<2 ^ k.bits):Go.bits .xor k (a:Int) (b:Int)=((a ^^^ b:Nat):Int):=by
 simp only[Go.bits,ym,BitVec.toNat_xor,BitVec.toNat_ofNat,Nat.mod_eq_of_lt ha,Nat.mod_eq_of_lt hb]
 exact zn k hs _ (Nat.xor_lt_two_pow ha hb)
theorem qeK(a:Nat)(ha:a<18446744073709551616):qmo .u64 (a:Int)=((18446744073709551615-a:Nat):Int):=by
 have h1:(if IntKind.u64.signed=true then -1 else IntKind.u64.max)=((18446744073709551615:Nat):Int):=by decide
 unfold qmo
 rw[h1,qcW .u64 rfl _ _ (by decide) (by rw[p64];exact ha)]
 congr 1
 have h2:=BitVec.toNat_not (x:=BitVec.ofNat 64 a)
 rw[←BitVec.allOnes_xor,BitVec.toNat_xor,BitVec.toNat_ofNat,Nat.mod_eq_of_lt (show a<2 ^ 64 by simpa using ha)]at h2
 simpa using h2
theorem qmy(a:Nat):a &&& 127=a%128:=Nat.and_two_pow_sub_one_eq_mod a 7
theorem qow(a:Nat):a &&& 1=a%2:=Nat.and_two_pow_sub_one_eq_mod a 1
theorem qnm:∀a,a<256→a ||| 128=a%128+128:=by decide +kernel
theorem qg1(a b i:Nat)(h:b<2 ^ i):b ||| a*2 ^ i=b+a*2 ^ i:=by
 have:=Nat.shiftLeft_add_eq_or_of_lt h a
 rw[Nat.shiftLeft_eq]at this
 rw[Nat.or_comm,←this,Nat.add_comm]
theorem qek(a i:Nat)(hi:i≤64)(h:a*2 ^ i<18446744073709551616):qgu .u64 (a:Int) (i:Int)=some ((a*2 ^ i:Nat):Int):=by
 have hb:(0:Int)≤(i:Int)∧(i:Int)≤(IntKind.bits .u64:Int):=⟨by omega,by simp[IntKind.bits];omega⟩
 unfold qgu
 rw[if_pos hb,Int.toNat_natCast,show((a:Int)*2 ^ i)=((a*2 ^ i:Nat):Int) by push_cast;rfl,zn .u64 rfl _ (by rw[p64];exact h)]
theorem qa4(a i:Nat)(hi:i≤64):qgt .u64 (a:Int) (i:Int)=some ((a/2 ^ i:Nat):Int):=by
 have hb:(0:Int)≤(i:Int)∧(i:Int)≤(IntKind.bits .u64:Int):=⟨by omega,by simp[IntKind.bits];omega⟩
 unfold qgt
 rw[if_pos hb,Int.toNat_natCast];push_cast;rfl
theorem qiB(a i:Nat)(hi:i≤32)(h:a*2 ^ i<4294967296):qgu .u32 (a:Int) (i:Int)=some ((a*2 ^ i:Nat):Int):=by
 have hb:(0:Int)≤(i:Int)∧(i:Int)≤(IntKind.bits .u32:Int):=⟨by omega,by simp[IntKind.bits];omega⟩
 unfold qgu
 rw[if_pos hb,Int.toNat_natCast,show((a:Int)*2 ^ i)=((a*2 ^ i:Nat):Int) by push_cast;rfl,zn .u32 rfl _ (by rw[p32];exact h)]
theorem qa5(a i:Nat)(hi:i≤32):qgt .u32 (a:Int) (i:Int)=some ((a/2 ^ i:Nat):Int):=by
 have hb:(0:Int)≤(i:Int)∧(i:Int)≤(IntKind.bits .u32:Int):=⟨by omega,by simp[IntKind.bits];omega⟩
 unfold qgt
 rw[if_pos hb,Int.toNat_natCast];push_cast;rfl
theorem zk(a b:Nat)(hb:b≠0):qew (a:Int) (b:Int)=some ((a%b:Nat):Int):=by
 unfold qew
 rw[if_pos (by omega),Int.tmod_eq_emod_of_nonneg (by omega)];rfl
theorem qeI(a b:Nat)(hb:b≠0)(h:a<18446744073709551616):qcT .u64 (a:Int) (b:Int)=some ((a/b:Nat):Int):=by
 unfold qcT
 rw[if_pos (by omega),Int.tdiv_eq_ediv_of_nonneg (by omega),←Int.natCast_ediv,zn .u64 rfl _ (Nat.lt_of_le_of_lt (Nat.div_le_self a b) (by rw[p64];exact h))]
theorem qbs(a b:Nat)(hb:b≠0)(h:a<4294967296):qcT .u32 (a:Int) (b:Int)=some ((a/b:Nat):Int):=by
 unfold qcT
 rw[if_pos (by omega),Int.tdiv_eq_ediv_of_nonneg (by omega),←Int.natCast_ediv,zn .u32 rfl _ (Nat.lt_of_le_of_lt (Nat.div_le_self a b) (by rw[p32];exact h))]
theorem xi{s:List UInt8}{i:Nat}{b:UInt8}(h:s[i]?=some b):qaj s (i:Int)=some ((b.toNat:Nat):Int):=by
 simp[qaj,h]
theorem qC{a b:List UInt8}(h:a.length+b.length≤9223372036854775807):kp a b=some (a++b):=if_pos h
theorem qE{α:Type}{a b:List α}(h:a.length+b.length≤2513169434916):app a b=some (a++b):=if_pos h
theorem qK{α:Type}{l:List α}{a b:Int}(h0:0≤a)(h1:a≤b)(h2:b≤l.length):cut l a b=some ((l.take b.toNat).drop a.toNat):=if_pos ⟨h0,h1,h2⟩
theorem qp{α:Type}{l:List α}{i:Nat}(h:i<l.length):idx l (i:Int)=some l[i]:=by rw[jw,List.getElem?_eq_getElem h]
end Go.S
end
