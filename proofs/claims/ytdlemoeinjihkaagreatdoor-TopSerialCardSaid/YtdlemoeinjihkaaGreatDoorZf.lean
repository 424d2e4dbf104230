import Derived.Test.YtdlemoeinjihkaaGreatDoorZb
import Derived.KernelRfl
import Derived.Test.YtdlemoeinjihkaaGreatDoorZc
import Derived.Test.YtdlemoeinjihkaaGreatDoorZa
import Derived.Shelf.Strings.BuilderF
import Derived.Shelf.LaysM
import Derived.Shelf.Strconv.Itoa3
import Derived.Shelf.Sort.Plain
import Derived.Shelf.Strings.Repeat
import Derived.Ground.Names2Prog
import Derived.Shelf.Slices.CompactI
import Derived.Shelf.Slices.In.SortNone
import Derived.Test.YtdlemoeinjihkaaGreatDoorChecked
import Derived.Shelf.SlGeneric
import Derived.Shelf.SlSortCmp.NoneTotal
import Derived.Ground.SlsfProg
import Derived.Test.YtdlemoeinjihkaaGreatDoorTqM
set_option linter.unusedVariables false
set_option linter.unusedSimpArgs false
section
namespace Go.S
variable {dR:Dr}
def qaO (fs:Fr):Op→Option Value
 | .move x=>val fs x
 | .assign x=>val fs x
 | .extract x i=>match val fs x with
  | some (.tuple vs)=>vs.toList[i]?
  | _=>none
 | .pick c x y=>match val fs c with
  | some (.bool true)=>val fs x
  | some (.bool false)=>val fs y
  | _=>none
 | .nilCheck x=>match val fs x with
  | some (.pointer (some a))=>some (.pointer (some a))
  | _=>none
 | _=>none
def qbI (ops:Array Oper) (n:Nat) (fs:Fr) (o:Oper):Option Fr:=match o.dst with
 | some d=>match Nat.blt d n with
  | true=>match wi ops fs o.guard with
   | true=>some ((d,undef) :: fs)
   | false=>match jg ops fs o.guard with
    | true=>match qaO fs o.op with
     | some v=>some ((d,v) :: fs)
     | none=>none
    | false=>none
  | false=>none
 | none=>match wi ops fs o.guard with
  | true=>some fs
  | false=>none
def qmp (ops:Array Oper) (n:Nat):Nat→List Oper→Fr→Option (List Oper×Fr)
 | 0,l,fs=>some (l,fs)
 | k+1,o :: l,fs=>match qbI ops n fs o with
  | some fs'=>qmp ops n k l fs'
  | none=>none
 | _+1,[],_=>none
section
variable {P:Program} {Q:Exit→Act→World→Prop} {n:Nat} {C D:World→Prop} {fs fs':Fr} {t:TypeId} {ops:Array Oper} {l l' rest:List Oper} {d:Nat} {pos:String} {af:Array Edge} {op:Op} {v:Value} {x y c:Operand} {j k i:Nat} {b:Bool} {o:Oper} {listed:Array Bool} {bss:List (List Nat)} {Bs:List (World→Prop)} {S:Array Bool→World→Prop} {Z:World→Prop}
theorem yC (h:qaO fs op=some v):Y P op t n fs C v:=by
 unfold qaO at h
 split at h
 ·exact Y.move h
 ·exact Y.assign h
 ·split at h
  ·rename_i x i vs hx
   exact Y.extract (vs:=vs.toList) (by simpa using hx) h
  ·cases h
 ·split at h
  ·rename_i hc;exact Y.pickT hc h
  ·rename_i hc;exact Y.pickF hc h
  ·cases h
 ·split at h
  ·rename_i hx
   cases h
   exact Y.nilCheck hx
  ·cases h
 ·cases h
inductive qi2 (ops:Array Oper) (n:Nat) (fs:Fr) (o:Oper):Fr→Prop
 | pass {e:Nat} (h1:o.dst=some e) (h2:Nat.blt e n=true) (h3:wi ops fs o.guard=true):qi2 ops n fs o ((e,undef) :: fs)
 | want {e:Nat} {u:Value} (h1:o.dst=some e) (h2:Nat.blt e n=true) (h3:jg ops fs o.guard=true) (h4:qaO fs o.op=some u):qi2 ops n fs o ((e,u) :: fs)
 | none (h1:o.dst=none) (h3:wi ops fs o.guard=true):qi2 ops n fs o fs
theorem kc (h:qbI ops n fs o=some fs'):qi2 ops n fs o fs':=by
 unfold qbI at h
 split at h
 ·rename_i d hd
  split at h
  ·rename_i hb
   split at h
   ·rename_i hp
    cases h
    exact .pass hd hb hp
   ·split at h
    ·rename_i hw
     split at h
     ·rename_i v hv
      cases h
      exact .want hd hb hw hv
     ·cases h
    ·cases h
  ·cases h
 ·rename_i hd
  split at h
  ·rename_i hp
   cases h
   exact .none hd hp
  ·cases h
theorem L.step1 (h:qbI ops n fs o=some fs') (next:L P ops Q n C rest fs'):L P ops Q n C (o :: rest) fs:=by
 have h':=kc h
 obtain ⟨dst,op,t,pos,af,g⟩:=o
 intro a w hs hc
 cases h' with
 | pass h1 h2 h3 =>
  simp only at h1 h3
  subst h1
  simp only [wpList,zC hs _ h3,Bool.false_eq_true,if_false]
  exact next _ w (hs.put h2 _) hc
 | want h1 h2 h3 h4 =>
  simp only at h1 h3 h4
  subst h1
  simp only [wpList,xb hs _ h3,if_true]
  exact .inl ((yC h4:Y P op t n fs C _).wp _ pos af g hs hc fun w' hc'=>next _ w' (hs.put h2 _) hc')
 | none h1 h3 =>
  simp only at h1 h3
  subst h1
  simp only [wpList,zC hs _ h3,Bool.false_eq_true,if_false]
  exact next a w hs hc
theorem U.step1 (h:qbI ops n fs o=some fs') (next:U P ops Q n C rest fs'):U P ops Q n C (o :: rest) fs:=by
 have h':=kc h
 obtain ⟨dst,op,t,pos,af,g⟩:=o
 intro a hs
 cases h' with
 | pass h1 h2 h3 =>
  simp only at h1 h3
  subst h1
  simp only [wpQuiet,zC hs _ h3,Bool.false_eq_true,if_false]
  exact next _ (hs.put h2 _)
 | want h1 h2 h3 h4 =>
  simp only at h1 h3 h4
  subst h1
  simp only [wpQuiet,xb hs _ h3,if_true]
  exact ⟨_,fun w hc=>(yC h4:Y P op t n fs C _) _ _ _ _ a w hs hc,next _ (hs.put h2 _)⟩
 | none h1 h3 =>
  simp only at h1 h3
  subst h1
  simp only [wpQuiet,zC hs _ h3,Bool.false_eq_true,if_false]
  exact next a hs
theorem L.r:∀ (k:Nat) {l:List Oper} {fs:Fr} (h:qmp ops n k l fs=some (l',fs')) (next:L P ops Q n C l' fs'),L P ops Q n C l fs
 | 0,l,fs,h,next=>by cases h;exact next
 | k+1,[],fs,h,next=>by cases h
 | k+1,o :: l,fs,h,next=>by
  unfold qmp at h
  split at h
  ·rename_i fs1 h1
   exact L.step1 h1 (L.r k h next)
  ·cases h
theorem U.r:∀ (k:Nat) {l:List Oper} {fs:Fr} (h:qmp ops n k l fs=some (l',fs')) (next:U P ops Q n C l' fs'),U P ops Q n C l fs
 | 0,l,fs,h,next=>by cases h;exact next
 | k+1,[],fs,h,next=>by cases h
 | k+1,o :: l,fs,h,next=>by
  unfold qmp at h
  split at h
  ·rename_i fs1 h1
   exact U.step1 h1 (U.r k h next)
  ·cases h
def okV (ops:Array Oper) (bss:List (List Nat)):Array Bool→List Nat→Bool
 | _,[]=>true
 | listed,i :: r=>qnr ops bss [] listed i && okV ops bss (listed.setIfInBounds i true) r
def qmB (listed:Array Bool):List Nat→Array Bool
 | []=>listed
 | i :: r=>qmB (listed.setIfInBounds i true) r
def qn8 (ops:Array Oper) (n:Nat):List Nat→Fr→Option Fr
 | [],fs=>some fs
 | i :: r,fs=>match ops[i]? with
  | some o=>match qbI ops n fs o with
   | some fs'=>qn8 ops n r fs'
   | none=>none
  | none=>none
theorem V2.step1 (hn:Nx2 ops S Z listed i o) (h:qbI ops n fs o=some fs') (next:V2 P ops Q n S (listed.setIfInBounds i true) k C fs'):V2 P ops Q n S listed (k+1) C fs:=by
 have h':=kc h
 obtain ⟨dst,op,t,pos,af,g⟩:=o
 cases h' with
 | pass h1 h2 h3 =>
  simp only at h1 h3
  subst h1
  exact V2.pass hn h3 h2 next
 | want h1 h2 h3 h4 =>
  simp only at h1 h3 h4
  subst h1
  by_cases hp:zV op=true
  ·exact V2.y hn h3 hp h2 (yC h4) next
  ·unfold qaO at h4
   split at h4
   ·exact absurd rfl hp
   ·exact absurd rfl hp
   ·exact absurd rfl hp
   ·exact absurd rfl hp
   ·split at h4
    ·rename_i hx
     cases h4
     exact V2.nilc hn h3 h2 hx next
    ·cases h4
   ·cases h4
 | none h1 h3 =>
  simp only at h1 h3
  subst h1
  exact V2.passNone hn h3 next
theorem V2.r:∀ (is:List Nat) {listed:Array Bool} {fs:Fr} {k:Nat} (h:okV ops bss listed is=true) (h2:qn8 ops n is fs=some fs') (next:V2 P ops Q n (stC bss Bs D) (qmB listed is) k C fs'),V2 P ops Q n (stC bss Bs D) listed (k+is.length) C fs
 | [],listed,fs,k,h,h2,next=>by cases h2;exact next
 | i :: r,listed,fs,k,h,h2,next=>by
  simp only [okV,Bool.and_eq_true] at h
  unfold qn8 at h2
  split at h2
  ·rename_i o ho
   split at h2
   ·rename_i fs1 h3
    exact V2.step1 (Z:=fun _=>True) (Nx2.of [] h.1 ho fun _ _ _ _=>trivial) h3 (V2.r r h.2 h2 next)
   ·cases h2
  ·cases h2
end
theorem hI {D:World→Prop}:∀ w,D w→D w:=fun _ h=>h
section
variable {P:Program} {Q:Exit→Act→World→Prop} {n:Nat} {C D Z:World→Prop} {fs fs':Fr} {t:TypeId} {ops:Array Oper} {l l' rest:List Oper} {d id:Nat} {pos:String} {af:Array Edge} {op:Op} {v u:Value} {x y c:Operand} {k i:Nat} {g:Option (Nat×Bool)} {listed:Array Bool} {bss:List (List Nat)} {Bs:List (World→Prop)}
variable {w0 w:World} {own:List Nat} {m m':List As} {α ρ:Type} {r:ρ} {b off:Nat} {cs:List Value} {e te:TypeId} {cd:Code}
theorem Cls.s (h:Cls w0 own m w) (is:List Nat) (hn:is.Nodup:=by decide) (hm:is.map (m[·]?)=m'.map some:=by exact rfl):Cls w0 own m' w:=h.sel is hn hm
theorem V2.q (i:Nat) (bz:List Nat) (hz:∀ (L:Array Bool) w,qU bz L=true→stC bss Bs D L w→Z w) (ho:ops[i]?=some ⟨some d,op,t,pos,af,g⟩) (hg:jg ops fs g=true) (hy:Y P op t n fs Z v)
  (next:V2 P ops Q n (stC bss Bs D) (listed.setIfInBounds i true) k C ((d,v) :: fs)) (h:qnr ops bss bz listed i=true:=by kernel_rfl) (hp:zV op=true:=by exact rfl) (hd:Nat.blt d n=true:=by exact rfl):V2 P ops Q n (stC bss Bs D) listed (k+1) C fs:=V2.y (Nx2.of bz h ho hz) hg hp hd hy next
theorem nsr {yy:Code} {K:Exit→Act→World→Prop} (h:L P l.toArray (Exit.then (yy.wp P K) K) n C l fs):L P ops (Exit.then ((Code.seq (.region id l.toArray false) yy).wp P K) K) n C [] fs:=L.nil (E.thenN (W.seq (W.region h)))
theorem nr {K:Exit→Act→World→Prop} (h:L P l.toArray K n C l fs):L P ops (Exit.then ((Code.region id l.toArray false).wp P K) K) n C [] fs:=L.nil (E.thenN (W.region h))
theorem sr {yy:Code} (h:L P l.toArray (Exit.then (yy.wp P Q) Q) n C l fs):W P Q n C (.seq (.region id l.toArray false) yy) fs:=W.seq (W.region h)
theorem ln {K:Exit→Act→World→Prop} (h:W P K n C cd fs):L P ops (Exit.then (cd.wp P K) K) n C [] fs:=L.nil (E.thenN h)
theorem E.jJ {J:Fr→(World→Prop)→Prop} {gs:Fr} {D:World→Prop} (h:J gs D) (hD:∀ w,C w→D w) (hF:Sub gs fs:=by (repeat refine ⟨rfl,?_⟩);trivial):E .normal (KS Q n J) n C fs:=E.joinJ h hF hD
theorem E.aJ {J:Nat→Fr→(World→Prop)→Prop} {m m':Nat} {gs:Fr} {D:World→Prop} (h:J m' gs D) (hD:∀ w,C w→D w) (hm:m' < m:=by exact Nat.lt_succ_self _) (hF:Sub gs fs:=by (repeat refine ⟨rfl,?_⟩);trivial):E .normal (KL Q n J m) n C fs:=E.againJ h hm hF hD
theorem nb {a b:Nat} (h:Nat.ble a b=true:=by exact rfl):a≤b:=Nat.le_of_ble_eq_true h
theorem sI (is:List Nat) (hn:is.Nodup:=by decide) (hm:is.map (m[·]?)=m'.map some:=by exact rfl):∀ w,Cls w0 own m w→Cls w0 own m' w:=fun _ hw=>hw.sel is hn hm
end
end Go.S
end
section
namespace Go.S
variable {dR:Dr}
section
variable {P:Program} {Q:Exit→Act→World→Prop} {n:Nat} {fs:Fr} {ops:Array Oper}
variable {w0:World} {own:List Nat} {m m':List As} {e:TypeId} {p:Nat}
variable {α:Type} {row:α→List Value→List Value} {sub:α→List Value→List As} {g:Nat→Nat} {gh:Nat→List Value} {l:List α} {a:Int} {u0 u1:α}
theorem Cls.aS {w:World} (hw:Cls w0 own m w) (is:List Nat) (hi:idx l a=some u0) (hm:is.map (m[·]?)=((thg row sub e (g a.toNat) (gh a.toNat) u0)++arn row sub e g gh l [a.toNat] :: m').map some) (hn:is.Nodup:=by decide):Cls w0 own (arn row sub e g gh l [] :: m') w :=
 hw.arShut (hs':=[a.toNat]) is hi hn hm (fun _=>List.mem_cons) List.not_mem_nil
theorem Cls.aO {w:World} (hw:Cls w0 own m w) (p:Nat) (hm:m[p]?=some (arn row sub e g gh l [])) (hi:idx l a=some u0):Cls w0 own (thg row sub e (g a.toNat) (gh a.toNat) u0++arn row sub e g gh l [a.toNat] :: m.eraseIdx p) w :=
 hw.arOpen hm hi List.not_mem_nil
theorem L.aC {zz:List α} {vs':List Value} {ll:List Oper} (is:List Nat) (hz:upd l a u1=some zz) (hm:is.map (m[·]?)=((thg row sub e (g a.toNat) vs' u1)++arn row sub e g gh l [a.toNat] :: m').map some) (next:∀ gh',L P ops Q n (Cls w0 own (arn row sub e g gh' zz [] :: m')) ll fs) (hn:is.Nodup:=by decide):L P ops Q n (Cls w0 own m) ll fs :=
 L.arClose (hs':=[a.toNat]) is hz hn hm (fun _=>List.mem_cons) List.not_mem_nil next
theorem W.aC {zz:List α} {vs':List Value} {ll:Code} (is:List Nat) (hz:upd l a u1=some zz) (hm:is.map (m[·]?)=((thg row sub e (g a.toNat) vs' u1)++arn row sub e g gh l [a.toNat] :: m').map some) (next:∀ gh',W P Q n (Cls w0 own (arn row sub e g gh' zz [] :: m')) ll fs) (hn:is.Nodup:=by decide):W P Q n (Cls w0 own m) ll fs :=
 W.arClose (hs':=[a.toNat]) is hz hn hm (fun _=>List.mem_cons) List.not_mem_nil next
theorem E.aC {zz:List α} {vs':List Value} {ll:Exit} (is:List Nat) (hz:upd l a u1=some zz) (hm:is.map (m[·]?)=((thg row sub e (g a.toNat) vs' u1)++arn row sub e g gh l [a.toNat] :: m').map some) (next:∀ gh',E ll Q n (Cls w0 own (arn row sub e g gh' zz [] :: m')) fs) (hn:is.Nodup:=by decide):E ll Q n (Cls w0 own m) fs :=
 E.arClose (hs':=[a.toNat]) is hz hn hm (fun _=>List.mem_cons) List.not_mem_nil next
end
section
variable {P:Program} {Q:Exit→Act→World→Prop} {n:Nat} {fs:Fr} {t:TypeId} {ops:Array Oper} {rest:List Oper} {pos:String} {af:Array Edge} {w0:World} {own:List Nat} {m:List As}
theorem L.sv {x y:Operand} {b off i k:Nat} {c:List Value} {e te:TypeId} {v:Value} {vs:List Value} (hs:szB P te k=true) (hx:val fs x=some (pt b off)) (hy:val fs y=some v) (hv:v.cells.toList=vs) (hk:vs.length=k)
  (hm:m[i]?=some (.obj b c e)) (hl:off+k≤c.length) (next:L P ops Q n (Cls w0 own (m.set i (.obj b (over c off vs) e))) rest fs) (h1:∀ u∈vs,u.oneCell'=true:=by simp [Value.oneCell',Value.cells,st,pt,el]) :
  L P ops Q n (Cls w0 own m) (⟨none,.store te x y,t,pos,af,none⟩ :: rest) fs:=L.store hs hx hy hv hk h1 hm hl next
end
class RL {α:Type} (row:α→List Value→List Value):Prop where
 h:∀ z v,(row z v).length=1
instance {α:Type} (f:α→Value):RL (fzr fun x=>[f x]):=⟨fun _ _=>rfl⟩
instance {α:Type}:RL (qh (α:=α)):=⟨fun _ _=>rfl⟩
instance {g:Nat→Nat}:RL (fzr (PR g)):=⟨fun _ _=>rfl⟩
instance:RL (fzr SR):=⟨fun _ _=>rfl⟩
theorem zl {α:Type} {row:α→List Value→List Value} {vs:Nat→List Value} {l:List α} [RL row]:(zr row vs l).flatten.length=l.length∧(List.map List.length (zr row vs l)).sum=l.length:=by
 have:=qaw (vs:=vs) (l:=l) (RL.h (row:=row))
 rw [← List.length_flatten]
 omega
end Go.S
end
section
namespace Go.Proofs
open Go.Shelf
def Tryz.laysM171_ren:Go.Shelf.Ren:=⟨fun | 171=>8 | 243=>21 | 246=>42 | 283=>79 | 284=>80 | 285=>81 | 286=>82 | 129=>103 | 317=>118 | 318=>119 | 319=>120 | 320=>121 | 337=>158 | 338=>159 | n=>n,fun | 3=>3 | 9=>9 | 2=>2 | 4=>4 | 171=>177 | 0=>0 | 53=>178 | 37=>168 | 5=>5 | 173=>181 | 212=>217 | 51=>200 | 20=>20 | 213=>218 | 46=>141 | 232=>264 | 233=>265 | n=>n,fun | 17=>0 | 18=>2 | 19=>3 | n=>n⟩
theorem Tryz.laysM171:Go.Proofs.LaysM.n171 Tryz.prog Tryz.laysM171_ren:={
 mixed:=by kernel_rfl
 f129:=Tryz.func103.trans (congrArg some (by kernel_rfl))
 f171:=Tryz.func8.trans (congrArg some (by kernel_rfl))
 f243:=Tryz.func21.trans (congrArg some (by kernel_rfl))
 f246:=Tryz.func42.trans (congrArg some (by kernel_rfl))
 f283:=Tryz.func79.trans (congrArg some (by kernel_rfl))
 f284:=Tryz.func80.trans (congrArg some (by kernel_rfl))
 f285:=Tryz.func81.trans (congrArg some (by kernel_rfl))
 f286:=Tryz.func82.trans (congrArg some (by kernel_rfl))
 f317:=Tryz.func118.trans (congrArg some (by kernel_rfl))
 f318:=Tryz.func119.trans (congrArg some (by kernel_rfl))
 f319:=Tryz.func120.trans (congrArg some (by kernel_rfl))
 f320:=Tryz.func121.trans (congrArg some (by kernel_rfl))
 f337:=Tryz.func158.trans (congrArg some (by kernel_rfl))
 f338:=Tryz.func159.trans (congrArg some (by kernel_rfl))
 t0:=Tryz.underlying0
 a0:=Tryz.isAgg0
 z0:=Tryz.sizeOf0
 v0:=Tryz.zeroValue0
 t2:=Tryz.underlying2
 a2:=Tryz.isAgg2
 z2:=Tryz.sizeOf2
 v2:=Tryz.zeroValue2
 t3:=Tryz.underlying3
 a3:=Tryz.isAgg3
 z3:=Tryz.sizeOf3
 v3:=Tryz.zeroValue3
 t4:=Tryz.underlying4
 a4:=Tryz.isAgg4
 z4:=Tryz.sizeOf4
 v4:=Tryz.zeroValue4
 t5:=Tryz.underlying5
 a5:=Tryz.isAgg5
 z5:=Tryz.sizeOf5
 v5:=Tryz.zeroValue5
 t9:=Tryz.underlying9
 a9:=Tryz.isAgg9
 z9:=Tryz.sizeOf9
 v9:=Tryz.zeroValue9
 t20:=Tryz.underlying20
 a20:=Tryz.isAgg20
 z20:=Tryz.sizeOf20
 v20:=Tryz.zeroValue20
 t37:=Tryz.underlying168
 a37:=Tryz.isAgg168
 z37:=Tryz.sizeOf168
 v37:=Tryz.zeroValue168
 t46:=Tryz.underlying141
 a46:=Tryz.isAgg141
 z46:=Tryz.sizeOf141
 v46:=Tryz.zeroValue141
 t51:=Tryz.underlying200
 a51:=Tryz.isAgg200
 z51:=Tryz.sizeOf200
 v51:=Tryz.zeroValue200
 t53:=Tryz.underlying178
 a53:=Tryz.isAgg178
 z53:=Tryz.sizeOf178
 v53:=Tryz.zeroValue178
 t171:=Tryz.underlying177
 a171:=Tryz.isAgg177
 z171:=Tryz.sizeOf177
 v171:=Tryz.zeroValue177
 t173:=Tryz.underlying181
 a173:=Tryz.isAgg181
 z173:=Tryz.sizeOf181
 v173:=Tryz.zeroValue181
 t212:=Tryz.underlying217
 a212:=Tryz.isAgg217
 z212:=Tryz.sizeOf217
 v212:=Tryz.zeroValue217
 t213:=Tryz.underlying218
 a213:=Tryz.isAgg218
 z213:=Tryz.sizeOf218
 t232:=Tryz.underlying264
 a232:=Tryz.isAgg264
 z232:=Tryz.sizeOf264
 v232:=Tryz.zeroValue264
 t233:=Tryz.underlying265
 a233:=Tryz.isAgg265
 z233:=Tryz.sizeOf265
 v233:=Tryz.zeroValue265
 g17:=by kernel_rfl
 g18:=by kernel_rfl
 g19:=by kernel_rfl
 i0:=by kernel_rfl
 i2:=by kernel_rfl
 i3:=by kernel_rfl
 i4:=by kernel_rfl
 i5:=by kernel_rfl
 i9:=by kernel_rfl
 i20:=by kernel_rfl
 i37:=by kernel_rfl
 i46:=by kernel_rfl
 i51:=by kernel_rfl
 i53:=by kernel_rfl
 i171:=by kernel_rfl
 i173:=by kernel_rfl
 i212:=by kernel_rfl
 i232:=by kernel_rfl
 i233:=by kernel_rfl
 m17:=by kernel_rfl
 m18:=by kernel_rfl
 m19:=by kernel_rfl }
open Go.RowKit Go.Sort Go.Lib in
theorem Tryz.strconv_Itoa (n:Int) (h0 : -9223372036854775808≤n) (h1:n≤9223372036854775807) (w:World) (htab:Lib.TabIs Tryz.prog w "internal/strconv.uint64pow10" .u64 Lib.pow10Tab) :
  Calls Tryz.prog 8 #[.int .i64 n] w fun e w'=>e=.returned (.string ⟨(Lib.itoa n).toArray⟩)∧∃ k os,w'=grow (w.drewN k) os:=Any.strconv_Itoa Tryz.laysM171 n h0 h1 w htab
def Tryz.lays189_ren:Go.Shelf.Ren:=⟨fun | 189=>49 | 125=>55 | 257=>87 | 128=>102 | 129=>103 | 294=>124 | 295=>125 | 296=>126 | 297=>127 | 298=>128 | 299=>129 | 216=>130 | 300=>131 | 301=>132 | 328=>162 | 329=>137 | 330=>138 | 331=>163 | 332=>164 | 215=>56 | 343=>174 | n=>n,fun | 28=>52 | 3=>3 | 46=>141 | 0=>0 | 51=>200 | 53=>178 | 4=>4 | 183=>193 | 182=>192 | 131=>197 | 5=>5 | 9=>9 | 218=>229 | 222=>233 | 228=>255 | 229=>256 | n=>n,fun | n=>n⟩
theorem Tryz.lays189:Go.Proofs.Lays.n189 Tryz.prog Tryz.lays189_ren:={
 mixed:=by kernel_rfl
 f125:=Tryz.func55.trans (congrArg some (by kernel_rfl))
 f128:=Tryz.func102.trans (congrArg some (by kernel_rfl))
 f129:=Tryz.func103.trans (congrArg some (by kernel_rfl))
 f189:=Tryz.func49.trans (congrArg some (by kernel_rfl))
 f215:=Tryz.func56.trans (congrArg some (by kernel_rfl))
 f216:=Tryz.func130.trans (congrArg some (by kernel_rfl))
 f257:=Tryz.func87.trans (congrArg some (by kernel_rfl))
 f294:=Tryz.func124.trans (congrArg some (by kernel_rfl))
 f295:=Tryz.func125.trans (congrArg some (by kernel_rfl))
 f296:=Tryz.func126.trans (congrArg some (by kernel_rfl))
 f297:=Tryz.func127.trans (congrArg some (by kernel_rfl))
 f298:=Tryz.func128.trans (congrArg some (by kernel_rfl))
 f299:=Tryz.func129.trans (congrArg some (by kernel_rfl))
 f300:=Tryz.func131.trans (congrArg some (by kernel_rfl))
 f301:=Tryz.func132.trans (congrArg some (by kernel_rfl))
 f328:=Tryz.func162.trans (congrArg some (by kernel_rfl))
 f329:=Tryz.func137.trans (congrArg some (by kernel_rfl))
 f330:=Tryz.func138.trans (congrArg some (by kernel_rfl))
 f331:=Tryz.func163.trans (congrArg some (by kernel_rfl))
 f332:=Tryz.func164.trans (congrArg some (by kernel_rfl))
 f343:=Tryz.func174.trans (congrArg some (by kernel_rfl))
 t0:=Tryz.underlying0
 a0:=Tryz.isAgg0
 z0:=Tryz.sizeOf0
 v0:=Tryz.zeroValue0
 t3:=Tryz.underlying3
 a3:=Tryz.isAgg3
 z3:=Tryz.sizeOf3
 v3:=Tryz.zeroValue3
 t4:=Tryz.underlying4
 a4:=Tryz.isAgg4
 z4:=Tryz.sizeOf4
 v4:=Tryz.zeroValue4
 t5:=Tryz.underlying5
 a5:=Tryz.isAgg5
 z5:=Tryz.sizeOf5
 v5:=Tryz.zeroValue5
 t9:=Tryz.underlying9
 a9:=Tryz.isAgg9
 z9:=Tryz.sizeOf9
 v9:=Tryz.zeroValue9
 t28:=Tryz.underlying52
 a28:=Tryz.isAgg52
 z28:=Tryz.sizeOf52
 v28:=Tryz.zeroValue52
 t46:=Tryz.underlying141
 a46:=Tryz.isAgg141
 z46:=Tryz.sizeOf141
 v46:=Tryz.zeroValue141
 t51:=Tryz.underlying200
 a51:=Tryz.isAgg200
 z51:=Tryz.sizeOf200
 v51:=Tryz.zeroValue200
 t53:=Tryz.underlying178
 a53:=Tryz.isAgg178
 z53:=Tryz.sizeOf178
 v53:=Tryz.zeroValue178
 t131:=Tryz.underlying197
 a131:=Tryz.isAgg197
 z131:=Tryz.sizeOf197
 v131:=Tryz.zeroValue197
 t182:=Tryz.underlying192
 a182:=Tryz.isAgg192
 z182:=Tryz.sizeOf192
 v182:=Tryz.zeroValue192
 t183:=Tryz.underlying193
 a183:=Tryz.isAgg193
 z183:=Tryz.sizeOf193
 v183:=Tryz.zeroValue193
 t218:=Tryz.underlying229
 a218:=Tryz.isAgg229
 z218:=Tryz.sizeOf229
 v218:=Tryz.zeroValue229
 t222:=Tryz.underlying233
 a222:=Tryz.isAgg233
 z222:=Tryz.sizeOf233
 v222:=Tryz.zeroValue233
 t228:=Tryz.underlying255
 a228:=Tryz.isAgg255
 z228:=Tryz.sizeOf255
 v228:=Tryz.zeroValue255
 t229:=Tryz.underlying256
 a229:=Tryz.isAgg256
 z229:=Tryz.sizeOf256
 v229:=Tryz.zeroValue256 }
open Go.Sort Go.RowKit in
theorem Tryz.slices_Sort_int (blk off cap:Nat) (zs:List Int) (w:World) (hH:Holds (Value.int .i64) w blk off zs.toArray) (hblk:blk < w.heap.size) (hsz:zs.length < 4611686018427387904) :
  Calls Tryz.prog 49 #[.slice (some ⟨blk,off,none⟩) zs.length cap] w fun e w' =>
   e=.returned (.tuple #[])∧∃ n os,w'=grow (putRow (Value.int .i64) (Sort.ahead w n) blk off (zs.mergeSort fun x y=>decide (x≤y)).toArray) os:=Any.slices_Sort_int Tryz.lays189 blk off cap zs w hH hblk hsz
def Tryz.lays105_ren:Go.Shelf.Ren:=⟨fun | 105=>38 | 212=>73 | 99=>74 | 165=>75 | 166=>76 | 170=>77 | 169=>78 | 263=>113 | 264=>114 | 206=>115 | 240=>116 | 241=>117 | 276=>156 | 277=>157 | n=>n,fun | 9=>9 | 3=>3 | 4=>4 | 20=>20 | 0=>0 | 46=>141 | 109=>164 | 5=>5 | 72=>170 | 76=>174 | 51=>200 | 146=>210 | 53=>178 | 148=>212 | 70=>167 | 37=>168 | 75=>173 | 127=>214 | 164=>247 | 80=>176 | n=>n,fun | n=>n⟩
theorem Tryz.lays105:Go.Proofs.Lays.n105 Tryz.prog Tryz.lays105_ren:={
 mixed:=by kernel_rfl
 f99:=Tryz.func74.trans (congrArg some (by kernel_rfl))
 f105:=Tryz.func38.trans (congrArg some (by kernel_rfl))
 f165:=Tryz.func75.trans (congrArg some (by kernel_rfl))
 f166:=Tryz.func76.trans (congrArg some (by kernel_rfl))
 f169:=Tryz.func78.trans (congrArg some (by kernel_rfl))
 f170:=Tryz.func77.trans (congrArg some (by kernel_rfl))
 f206:=Tryz.func115.trans (congrArg some (by kernel_rfl))
 f212:=Tryz.func73.trans (congrArg some (by kernel_rfl))
 f240:=Tryz.func116.trans (congrArg some (by kernel_rfl))
 f241:=Tryz.func117.trans (congrArg some (by kernel_rfl))
 f263:=Tryz.func113.trans (congrArg some (by kernel_rfl))
 f264:=Tryz.func114.trans (congrArg some (by kernel_rfl))
 f276:=Tryz.func156.trans (congrArg some (by kernel_rfl))
 f277:=Tryz.func157.trans (congrArg some (by kernel_rfl))
 t0:=Tryz.underlying0
 a0:=Tryz.isAgg0
 z0:=Tryz.sizeOf0
 v0:=Tryz.zeroValue0
 t3:=Tryz.underlying3
 a3:=Tryz.isAgg3
 z3:=Tryz.sizeOf3
 v3:=Tryz.zeroValue3
 t4:=Tryz.underlying4
 a4:=Tryz.isAgg4
 z4:=Tryz.sizeOf4
 v4:=Tryz.zeroValue4
 t5:=Tryz.underlying5
 a5:=Tryz.isAgg5
 z5:=Tryz.sizeOf5
 v5:=Tryz.zeroValue5
 t9:=Tryz.underlying9
 a9:=Tryz.isAgg9
 z9:=Tryz.sizeOf9
 v9:=Tryz.zeroValue9
 t20:=Tryz.underlying20
 a20:=Tryz.isAgg20
 z20:=Tryz.sizeOf20
 v20:=Tryz.zeroValue20
 t37:=Tryz.underlying168
 a37:=Tryz.isAgg168
 z37:=Tryz.sizeOf168
 v37:=Tryz.zeroValue168
 t46:=Tryz.underlying141
 a46:=Tryz.isAgg141
 z46:=Tryz.sizeOf141
 v46:=Tryz.zeroValue141
 t51:=Tryz.underlying200
 a51:=Tryz.isAgg200
 z51:=Tryz.sizeOf200
 v51:=Tryz.zeroValue200
 t53:=Tryz.underlying178
 a53:=Tryz.isAgg178
 z53:=Tryz.sizeOf178
 v53:=Tryz.zeroValue178
 t70:=Tryz.underlying167
 a70:=Tryz.isAgg167
 z70:=Tryz.sizeOf167
 v70:=Tryz.zeroValue167
 t72:=Tryz.underlying170
 a72:=Tryz.isAgg170
 z72:=Tryz.sizeOf170
 v72:=Tryz.zeroValue170
 t75:=Tryz.underlying173
 a75:=Tryz.isAgg173
 z75:=Tryz.sizeOf173
 v75:=Tryz.zeroValue173
 t76:=Tryz.underlying174
 a76:=Tryz.isAgg174
 z76:=Tryz.sizeOf174
 v76:=Tryz.zeroValue174
 t109:=Tryz.underlying164
 a109:=Tryz.isAgg164
 z109:=Tryz.sizeOf164
 v109:=Tryz.zeroValue164
 t127:=Tryz.underlying214
 a127:=Tryz.isAgg214
 z127:=Tryz.sizeOf214
 v127:=Tryz.zeroValue214
 t146:=Tryz.underlying210
 a146:=Tryz.isAgg210
 z146:=Tryz.sizeOf210
 v146:=Tryz.zeroValue210
 t148:=Tryz.underlying212
 a148:=Tryz.isAgg212
 z148:=Tryz.sizeOf212
 v148:=Tryz.zeroValue212
 t164:=Tryz.underlying247
 a164:=Tryz.isAgg247
 z164:=Tryz.sizeOf247
 v164:=Tryz.zeroValue247 }
theorem Tryz.Builder_Extra_105:Builder.Extra Tryz.prog Tryz.lays105_ren:={
 sizeBuilder:=by kernel_rfl
 liesBuilder:=by kernel_rfl
 t5:=Tryz.underlying5
 a5:=Tryz.isAgg5
 z5:=Tryz.sizeOf5
 v5:=Tryz.zeroValue5
 infoByte:=by kernel_rfl
 cellsByte:=by kernel_rfl
 sizeByte:=by kernel_rfl
 neB5:=by decide }
open Go.RowKit Go.Lib in
theorem Tryz.strings_Repeat (s:ByteArray) (c:Nat) (w:World) (hc:c≤9223372036854775807) (hlen:s.size*c≤140737488355328) :
  Calls Tryz.prog 38 #[.string s,.int .i64 c] w fun e w'=>e=.returned (.string ⟨(Lib.repeatL s.data.toList c).toArray⟩)∧Below w.heap.size w w':=Any.strings_Repeat Tryz.lays105 Tryz.Builder_Extra_105 s c w hc hlen
def Tryz.laysNm220_ren:Go.Shelf.Ren:=⟨fun | 20=>105 | n=>n,fun | 22=>52 | 3=>3 | 4=>4 | 0=>0 | n=>n,fun | n=>n⟩
theorem Tryz.laysNm220:Go.Proofs.Lays2.n20 Tryz.prog Tryz.laysNm220_ren:={
 mixed:=by kernel_rfl
 f20:=Tryz.func105.trans (congrArg some (by kernel_rfl))
 t0:=Tryz.underlying0
 a0:=Tryz.isAgg0
 z0:=Tryz.sizeOf0
 v0:=Tryz.zeroValue0
 t3:=Tryz.underlying3
 a3:=Tryz.isAgg3
 z3:=Tryz.sizeOf3
 v3:=Tryz.zeroValue3
 t4:=Tryz.underlying4
 a4:=Tryz.isAgg4
 z4:=Tryz.sizeOf4
 v4:=Tryz.zeroValue4
 t22:=Tryz.underlying52
 a22:=Tryz.isAgg52
 z22:=Tryz.sizeOf52
 v22:=Tryz.zeroValue52
 i3:=by kernel_rfl }
open Go.RowKit Go.Lib Go.Sort in
theorem Tryz.slices_Compact_int (blk off cap:Nat) (zs:List Int) (w:World) (hH:Holds (Value.int .i64) w blk off zs.toArray) (hsz:zs.length≤9223372036854775807) (hcap:zs.length≤cap) :
  Calls Tryz.prog 105 #[.slice (some ⟨blk,off,none⟩) zs.length cap] w fun e w'=>e=.returned (.slice (some ⟨blk,off,none⟩) (Lib.compact zs).length cap)∧∃ q,w'=putRow (Value.int .i64) (Sort.ahead w q) blk off (Lib.compact zs++List.replicate (zs.length - (Lib.compact zs).length) 0).toArray:=Any.slices_Compact_int Tryz.laysNm220 blk off cap zs w hH hsz hcap
open Go.RowKit Go.Lib Go.Sort in
theorem Tryz.slices_Compact_int_empty (a:Option Addr) (cap:Nat) (w:World) :
  Calls Tryz.prog 105 #[.slice a 0 cap] w fun e w'=>e=.returned (.slice a 0 cap)∧w'=w:=Any.slices_Compact_int_empty Tryz.laysNm220 a cap w
open Go.RowKit Go.Sort in
theorem Tryz.slices_Sort_int_none (p:Option Addr) (cap:Nat) (w:World) :
  Calls Tryz.prog 49 #[.slice p 0 cap] w fun e w'=>e=.returned (.tuple #[])∧w'=w:=Any.slices_Sort_int_none Tryz.lays189 p cap w
end Go.Proofs
namespace Go.Proofs.YtdlemoeinjihkaaGreatDoor
open Go.S
theorem qme:qlx Tryz.prog 49:=⟨Tryz.slices_Sort_int,Tryz.slices_Sort_int_none⟩
theorem qh6:qlK Tryz.prog 105:=⟨Tryz.slices_Compact_int,Tryz.slices_Compact_int_empty⟩
theorem qbC (a0:List UInt8) (a1:Int) (w:World) (r:List UInt8) (h:xA a0 a1=some r):Does Tryz.prog 38 [st a0,.int .i64 a1] w fun u m=>u=st r∧m=[]:=by
 obtain ⟨h0,h1,h2,rfl⟩:=qaz h
 obtain ⟨c,rfl⟩:=Int.eq_ofNat_of_zero_le h0
 refine Calls.mono (Tryz.strings_Repeat ⟨a0.toArray⟩ c w (by omega) (by rw [xD];simpa using h2)) ?_
 rintro e w' ⟨rfl,hb⟩
 exact ⟨_,[],rfl,⟨by simp [st],rfl⟩,Cls.of_below hb (fun o=>False.elim o)⟩
theorem qmf (a0:Int) (w:World) (r:List UInt8) (h:qek a0=some r) (hT:Lib.TabIs Tryz.prog w "internal/strconv.uint64pow10" .u64 Lib.pow10Tab):Does Tryz.prog 8 [.int .i64 a0] w fun u m=>u=st r∧m=[]:=by
 obtain ⟨⟨h0,h1⟩,rfl⟩:=qej h
 refine Calls.mono (Tryz.strconv_Itoa a0 h0 h1 w hT) ?_
 rintro e w' ⟨rfl,k,os,rfl⟩
 exact ⟨_,[],rfl,⟨rfl,rfl⟩,(show Cls w [] [] (w.drewN k) from ⟨rfl,rfl,rfl,.of (Nat.le_add_right _ _),Nat.le_refl _,fun _ _ _=>rfl,by simp,fun x hx=>by cases hx⟩).grown os⟩
end Go.Proofs.YtdlemoeinjihkaaGreatDoor
end
section

end
section
namespace Go.Proofs
open Go.Shelf
def Tryz.lsf25_ren:Go.Shelf.Ren:=⟨fun | 6=>25 | 15=>55 | 14=>54 | 28=>102 | 29=>103 | 20=>94 | 21=>95 | 22=>96 | 23=>97 | 24=>98 | 25=>99 | 26=>100 | 27=>101 | 46=>136 | 47=>137 | 48=>138 | 49=>139 | 50=>140 | 57=>166 | n=>n,fun | 22=>46 | 24=>90 | 25=>95 | 3=>3 | 39=>141 | 0=>0 | 53=>200 | 55=>178 | 4=>4 | 46=>193 | 45=>192 | 50=>197 | 5=>5 | 9=>9 | 66=>229 | 70=>233 | 76=>255 | 77=>256 | n=>n,fun | n=>n⟩
theorem Tryz.lsf25:Go.Proofs.SlLaysF0.n6 Tryz.prog Tryz.lsf25_ren:={
 mixed:=by kernel_rfl
 f6:=⟨Tryz.f25.name,by decide,Tryz.func25.trans (congrArg some (by kernel_rfl))⟩
 f14:=⟨Tryz.f54.name,by decide,Tryz.func54.trans (congrArg some (by kernel_rfl))⟩
 f15:=Tryz.func55.trans (congrArg some (by kernel_rfl))
 f20:=⟨Tryz.f94.name,by decide,Tryz.func94.trans (congrArg some (by kernel_rfl))⟩
 f21:=⟨Tryz.f95.name,by decide,Tryz.func95.trans (congrArg some (by kernel_rfl))⟩
 f22:=⟨Tryz.f96.name,by decide,Tryz.func96.trans (congrArg some (by kernel_rfl))⟩
 f23:=⟨Tryz.f97.name,by decide,Tryz.func97.trans (congrArg some (by kernel_rfl))⟩
 f24:=⟨Tryz.f98.name,by decide,Tryz.func98.trans (congrArg some (by kernel_rfl))⟩
 f25:=⟨Tryz.f99.name,by decide,Tryz.func99.trans (congrArg some (by kernel_rfl))⟩
 f26:=⟨Tryz.f100.name,by decide,Tryz.func100.trans (congrArg some (by kernel_rfl))⟩
 f27:=⟨Tryz.f101.name,by decide,Tryz.func101.trans (congrArg some (by kernel_rfl))⟩
 f28:=Tryz.func102.trans (congrArg some (by kernel_rfl))
 f29:=Tryz.func103.trans (congrArg some (by kernel_rfl))
 f46:=⟨Tryz.f136.name,by decide,Tryz.func136.trans (congrArg some (by kernel_rfl))⟩
 f47:=Tryz.func137.trans (congrArg some (by kernel_rfl))
 f48:=Tryz.func138.trans (congrArg some (by kernel_rfl))
 f49:=⟨Tryz.f139.name,by decide,Tryz.func139.trans (congrArg some (by kernel_rfl))⟩
 f50:=⟨Tryz.f140.name,by decide,Tryz.func140.trans (congrArg some (by kernel_rfl))⟩
 f57:=⟨Tryz.f166.name,by decide,Tryz.func166.trans (congrArg some (by kernel_rfl))⟩
 t0:=Tryz.underlying0
 a0:=Tryz.isAgg0
 z0:=Tryz.sizeOf0
 v0:=Tryz.zeroValue0
 t3:=Tryz.underlying3
 a3:=Tryz.isAgg3
 z3:=Tryz.sizeOf3
 v3:=Tryz.zeroValue3
 t4:=Tryz.underlying4
 a4:=Tryz.isAgg4
 z4:=Tryz.sizeOf4
 v4:=Tryz.zeroValue4
 t5:=Tryz.underlying5
 a5:=Tryz.isAgg5
 z5:=Tryz.sizeOf5
 v5:=Tryz.zeroValue5
 t9:=Tryz.underlying9
 a9:=Tryz.isAgg9
 z9:=Tryz.sizeOf9
 v9:=Tryz.zeroValue9
 t22:=Tryz.underlying46
 a22:=Tryz.isAgg46
 z22:=Tryz.sizeOf46
 v22:=Tryz.zeroValue46
 t25:=Tryz.underlying95
 a25:=Tryz.isAgg95
 z25:=Tryz.sizeOf95
 v25:=Tryz.zeroValue95
 t39:=Tryz.underlying141
 a39:=Tryz.isAgg141
 z39:=Tryz.sizeOf141
 v39:=Tryz.zeroValue141
 t45:=Tryz.underlying192
 a45:=Tryz.isAgg192
 z45:=Tryz.sizeOf192
 v45:=Tryz.zeroValue192
 t46:=Tryz.underlying193
 a46:=Tryz.isAgg193
 z46:=Tryz.sizeOf193
 v46:=Tryz.zeroValue193
 t50:=Tryz.underlying197
 a50:=Tryz.isAgg197
 z50:=Tryz.sizeOf197
 v50:=Tryz.zeroValue197
 t53:=Tryz.underlying200
 a53:=Tryz.isAgg200
 z53:=Tryz.sizeOf200
 v53:=Tryz.zeroValue200
 t55:=Tryz.underlying178
 a55:=Tryz.isAgg178
 z55:=Tryz.sizeOf178
 v55:=Tryz.zeroValue178
 t66:=Tryz.underlying229
 a66:=Tryz.isAgg229
 z66:=Tryz.sizeOf229
 v66:=Tryz.zeroValue229
 t70:=Tryz.underlying233
 a70:=Tryz.isAgg233
 z70:=Tryz.sizeOf233
 v70:=Tryz.zeroValue233
 t76:=Tryz.underlying255
 a76:=Tryz.isAgg255
 z76:=Tryz.sizeOf255
 v76:=Tryz.zeroValue255
 t77:=Tryz.underlying256
 a77:=Tryz.isAgg256
 z77:=Tryz.sizeOf256
 v77:=Tryz.zeroValue256 }
def Tryz.lsf59_ren:Go.Shelf.Ren:=⟨fun | 6=>59 | 15=>55 | 14=>104 | 28=>102 | 29=>103 | 20=>141 | 21=>142 | 22=>143 | 23=>144 | 24=>145 | 25=>146 | 26=>147 | 27=>148 | 46=>167 | 47=>137 | 48=>138 | 49=>168 | 50=>169 | 57=>175 | n=>n,fun | 22=>97 | 24=>102 | 25=>145 | 3=>3 | 39=>141 | 0=>0 | 53=>200 | 55=>178 | 4=>4 | 46=>193 | 45=>192 | 50=>197 | 5=>5 | 9=>9 | 66=>229 | 70=>233 | 76=>255 | 77=>256 | n=>n,fun | n=>n⟩
theorem Tryz.lsf59:Go.Proofs.SlLaysF0.n6 Tryz.prog Tryz.lsf59_ren:={
 mixed:=by kernel_rfl
 f6:=⟨Tryz.f59.name,by decide,Tryz.func59.trans (congrArg some (by kernel_rfl))⟩
 f14:=⟨Tryz.f104.name,by decide,Tryz.func104.trans (congrArg some (by kernel_rfl))⟩
 f15:=Tryz.func55.trans (congrArg some (by kernel_rfl))
 f20:=⟨Tryz.f141.name,by decide,Tryz.func141.trans (congrArg some (by kernel_rfl))⟩
 f21:=⟨Tryz.f142.name,by decide,Tryz.func142.trans (congrArg some (by kernel_rfl))⟩
 f22:=⟨Tryz.f143.name,by decide,Tryz.func143.trans (congrArg some (by kernel_rfl))⟩
 f23:=⟨Tryz.f144.name,by decide,Tryz.func144.trans (congrArg some (by kernel_rfl))⟩
 f24:=⟨Tryz.f145.name,by decide,Tryz.func145.trans (congrArg some (by kernel_rfl))⟩
 f25:=⟨Tryz.f146.name,by decide,Tryz.func146.trans (congrArg some (by kernel_rfl))⟩
 f26:=⟨Tryz.f147.name,by decide,Tryz.func147.trans (congrArg some (by kernel_rfl))⟩
 f27:=⟨Tryz.f148.name,by decide,Tryz.func148.trans (congrArg some (by kernel_rfl))⟩
 f28:=Tryz.func102.trans (congrArg some (by kernel_rfl))
 f29:=Tryz.func103.trans (congrArg some (by kernel_rfl))
 f46:=⟨Tryz.f167.name,by decide,Tryz.func167.trans (congrArg some (by kernel_rfl))⟩
 f47:=Tryz.func137.trans (congrArg some (by kernel_rfl))
 f48:=Tryz.func138.trans (congrArg some (by kernel_rfl))
 f49:=⟨Tryz.f168.name,by decide,Tryz.func168.trans (congrArg some (by kernel_rfl))⟩
 f50:=⟨Tryz.f169.name,by decide,Tryz.func169.trans (congrArg some (by kernel_rfl))⟩
 f57:=⟨Tryz.f175.name,by decide,Tryz.func175.trans (congrArg some (by kernel_rfl))⟩
 t0:=Tryz.underlying0
 a0:=Tryz.isAgg0
 z0:=Tryz.sizeOf0
 v0:=Tryz.zeroValue0
 t3:=Tryz.underlying3
 a3:=Tryz.isAgg3
 z3:=Tryz.sizeOf3
 v3:=Tryz.zeroValue3
 t4:=Tryz.underlying4
 a4:=Tryz.isAgg4
 z4:=Tryz.sizeOf4
 v4:=Tryz.zeroValue4
 t5:=Tryz.underlying5
 a5:=Tryz.isAgg5
 z5:=Tryz.sizeOf5
 v5:=Tryz.zeroValue5
 t9:=Tryz.underlying9
 a9:=Tryz.isAgg9
 z9:=Tryz.sizeOf9
 v9:=Tryz.zeroValue9
 t22:=Tryz.underlying97
 a22:=Tryz.isAgg97
 z22:=Tryz.sizeOf97
 v22:=Tryz.zeroValue97
 t25:=Tryz.underlying145
 a25:=Tryz.isAgg145
 z25:=Tryz.sizeOf145
 v25:=Tryz.zeroValue145
 t39:=Tryz.underlying141
 a39:=Tryz.isAgg141
 z39:=Tryz.sizeOf141
 v39:=Tryz.zeroValue141
 t45:=Tryz.underlying192
 a45:=Tryz.isAgg192
 z45:=Tryz.sizeOf192
 v45:=Tryz.zeroValue192
 t46:=Tryz.underlying193
 a46:=Tryz.isAgg193
 z46:=Tryz.sizeOf193
 v46:=Tryz.zeroValue193
 t50:=Tryz.underlying197
 a50:=Tryz.isAgg197
 z50:=Tryz.sizeOf197
 v50:=Tryz.zeroValue197
 t53:=Tryz.underlying200
 a53:=Tryz.isAgg200
 z53:=Tryz.sizeOf200
 v53:=Tryz.zeroValue200
 t55:=Tryz.underlying178
 a55:=Tryz.isAgg178
 z55:=Tryz.sizeOf178
 v55:=Tryz.zeroValue178
 t66:=Tryz.underlying229
 a66:=Tryz.isAgg229
 z66:=Tryz.sizeOf229
 v66:=Tryz.zeroValue229
 t70:=Tryz.underlying233
 a70:=Tryz.isAgg233
 z70:=Tryz.sizeOf233
 v70:=Tryz.zeroValue233
 t76:=Tryz.underlying255
 a76:=Tryz.isAgg255
 z76:=Tryz.sizeOf255
 v76:=Tryz.zeroValue255
 t77:=Tryz.underlying256
 a77:=Tryz.isAgg256
 z77:=Tryz.sizeOf256
 v77:=Tryz.zeroValue256 }
end Go.Proofs
end
section
namespace Go.Proofs.YtdlemoeinjihkaaGreatDoor
open Go.S Go.Sort Go.Proofs Go.Shelf
def qjW (a b:Int):Int:=if a < b then -1 else if b < a then 1 else 0
def qnz (a b c:Int):Int:=if a≠0 then a else if b≠0 then b else c
theorem jf (a b:Int):M27 a b=some (qjW a b):=by
 have hn:∀ x:Int,M56 x=some false:=fun x=>by rw [M56];simp
 rw [M27,hn,qa,if_neg ff,qhu,if_neg ff,hn,qa,if_neg ff]
 unfold qjW
 by_cases c1:a < b
 ·rw [if_pos c1,if_pos c1]
 ·rw [if_neg c1,if_neg c1]
  by_cases c2:b < a
  ·rw [if_pos c2,if_pos c2]
  ·rw [if_neg c2,if_neg c2]
theorem qoe (a b c:Int):M61 [a,b,c]=some (qnz a b c):=by
 have hb:big=3+1+1180591620717411303420:=rfl
 have i0:idx [a,b,c] 0=some a:=rfl
 have i1:idx [a,b,c] 1=some b:=rfl
 have i2:idx [a,b,c] 2=some c:=rfl
 have e1:i64 ((0:Int)+1)=some 1:=rfl
 have e2:i64 ((1:Int)+1)=some 2:=rfl
 have e3:i64 ((2:Int)+1)=some 3:=rfl
 have hl:(([a,b,c]:List Int).length:Int)=3:=rfl
 obtain ⟨n,hn⟩:∃ n,big=n+4:=⟨1180591620717411303420,rfl⟩
 rw [M61,hn,ws,ya,hl,if_pos (by omega),i0,qa]
 unfold qnz
 by_cases c1:a≠0
 ·rw [if_pos c1,if_pos c1]
 ·rw [if_neg c1,if_neg c1,e1,qa,ws,ya,hl,if_pos (by omega),i1,qa]
  by_cases c2:b≠0
  ·rw [if_pos c2,if_pos c2]
  ·rw [if_neg c2,if_neg c2,e2,qa,ws,ya,hl,if_pos (by omega),i2,qa]
   by_cases c3:c≠0
   ·rw [if_pos c3]
   ·rw [if_neg c3,e3,qa,ws,ya,hl,if_neg (by omega),qi7]
    have:c=0:=by simpa using c3
    rw [this]
def cfDep (x y:TDep):Int:=qnz (qjW x.From y.From) (qjW x.To y.To) (qjW x.Kind y.Kind)
theorem M60 (x y:TDep):qfo x y=some (cfDep x y):=by
 rw [qfo,jf,qa,jf,qa,jf,qa,qoe,qa]
 rfl
theorem qoq (x y:TDep):qfo x y=some ((qfo x y).getD 0):=by rw [M60];rfl
theorem qot:(fun x y=>(qfo x y).getD 0)=cfDep:=by funext x y;rw [M60];rfl
def ahd (x y:TDep):Prop:=x.From < y.From∨(x.From=y.From∧(x.To < y.To∨(x.To=y.To∧x.Kind < y.Kind)))
instance (x y:TDep):Decidable (ahd x y):=by unfold ahd;infer_instance
theorem qkT (x y:TDep):ltOf cfDep x y=decide (ahd x y):=by
 unfold ltOf
 rw [decide_eq_decide]
 unfold cfDep qnz qjW ahd
 split <;> split <;> first | omega | skip
 all_goals (repeat' split) <;> omega
theorem qn3:SWO (ltOf fun x y=>(qfo x y).getD 0):=by
 rw [qot]
 refine ⟨fun x=>?_,fun x y z h1 h2=>?_,fun x y z h1 h2=>?_⟩
 ·rw [qkT];unfold ahd;simp
 ·rw [qkT] at *;simp only [decide_eq_true_eq] at *;unfold ahd at *;omega
 ·rw [qkT] at *;simp only [decide_eq_false_iff_not] at *;unfold ahd at *;omega
theorem qnT:∀ x y,(ltOf fun x y=>(qfo x y).getD 0) x y=false→(ltOf fun x y=>(qfo x y).getD 0) y x=false→x=y:=by
 rw [qot]
 intro x y h1 h2
 rw [qkT] at *
 simp only [decide_eq_false_iff_not] at *
 unfold ahd at *
 cases x;cases y
 simp only at *
 congr <;> omega
def cfT (x y:TTale):Int:=qjW x.Tx y.Tx
theorem M26 (x y:TTale):qhY x y=some (cfT x y):=by
 rw [qhY,jf,qa]
 rfl
theorem qor (x y:TTale):qhY x y=some ((qhY x y).getD 0):=by rw [M26];rfl
theorem qoY:(fun x y=>(qhY x y).getD 0)=cfT:=by funext x y;rw [M26];rfl
theorem qns (x y:TTale):ltOf cfT x y=decide (x.Tx < y.Tx):=by
 unfold ltOf
 rw [decide_eq_decide]
 unfold cfT qjW
 split
 ·omega
 ·split <;> omega
theorem qfM:SWO (ltOf cfT):=by
 refine ⟨fun x=>?_,fun x y z h1 h2=>?_,fun x y z h1 h2=>?_⟩
 ·rw [qns];simp
 ·rw [qns] at *;simp only [decide_eq_true_eq] at *;omega
 ·rw [qns] at *;simp only [decide_eq_false_iff_not] at *;omega
theorem qn4:SWO (ltOf fun x y=>(qhY x y).getD 0):=by rw [qoY];exact qfM
theorem qh5:qg7 Tryz.prog 25 2:={
 some':=fun enc hk hone cf hO g cb blk off cap d w eg hcmp hH hblk hsz =>
  AnyQ.slices_SortFunc Tryz.lsf25 2 Tryz.isAgg90 Tryz.sizeOf90 enc hk hone cf hO g cb blk off cap d w eg hcmp hH hblk hsz
 none':=fun p cap fv w=>AnyF.slices_SortFunc_none { Tryz.lsf25 with } p cap fv w }
theorem qko:qg6 Tryz.prog 59 TDep.row 3:={
 some':=fun cf hO hT g cb blk off cap d w eg hcmp hH hblk hsz =>
  AnyQ.slices_SortFunc_total Tryz.lsf59 3 Tryz.isAgg102 Tryz.sizeOf102 TDep.row (fun _=>rfl) (fun x v hv=>by
   simp only [TDep.row,List.mem_cons,List.not_mem_nil,or_false] at hv
   rcases hv with rfl | rfl | rfl <;> rfl) cf hO g cb blk off cap d w eg hcmp hH hblk hsz hT
 none':=fun p cap fv w=>AnyF.slices_SortFunc_none { Tryz.lsf59 with } p cap fv w }
end Go.Proofs.YtdlemoeinjihkaaGreatDoor
end
