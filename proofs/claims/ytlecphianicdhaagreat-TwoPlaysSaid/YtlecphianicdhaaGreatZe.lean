import Derived.Test.YtlecphianicdhaaGreatZb
import Derived.KernelRfl
import Derived.Shelf.Sort.Plain
import Derived.Ground.Names2Prog
import Derived.Shelf.Slices.CompactI
import Derived.Shelf.Slices.In.SortNone
import Derived.Shelf.SlSortCmp.NoneTotal
import Derived.Test.YtlecphianicdhaaGreatChecked
import Derived.Test.YtlecphianicdhaaGreatZc
import Derived.Test.YtlecphianicdhaaGreatTwM
section
namespace Go.S
set_option linter.unusedVariables false
def plainV (fs:Fr):Op→Option Value
 | .move x=>val fs x
 | .assign x=>val fs x
 | .extract x i=>match val fs x with
  | some (.tuple vs)=>vs.toList[i]?
  | _=>none
 | .pick c x y=>match val fs c with
  | some (.bool true)=>val fs x
  | some (.bool false)=>val fs y
  | _=>none
 | .nilCheck x=>match val fs x with
  | some (.pointer (some a))=>some (.pointer (some a))
  | _=>none
 | _=>none
def stepR (ops:Array Oper) (n:Nat) (fs:Fr) (o:Oper):Option Fr:=match o.dst with
 | some d=>match Nat.blt d n with
  | true=>match passB ops fs o.guard with
   | true=>some ((d,undef) :: fs)
   | false=>match wantB ops fs o.guard with
    | true=>match plainV fs o.op with
     | some v=>some ((d,v) :: fs)
     | none=>none
    | false=>none
  | false=>none
 | none=>match passB ops fs o.guard with
  | true=>some fs
  | false=>none
def runR (ops:Array Oper) (n:Nat):Nat→List Oper→Fr→Option (List Oper×Fr)
 | 0,l,fs=>some (l,fs)
 | k+1,o :: l,fs=>match stepR ops n fs o with
  | some fs'=>runR ops n k l fs'
  | none=>none
 | _+1,[],_=>none
section
variable {P:Program} {Q:Exit→Act→World→Prop} {n:Nat} {C D:World→Prop} {fs fs':Fr} {t:TypeId} {ops:Array Oper} {l l' rest:List Oper} {d:Nat} {pos:String} {af:Array Edge} {op:Op} {v:Value} {x y c:Operand} {j k i:Nat} {b:Bool} {o:Oper} {listed:Array Bool} {bss:List (List Nat)} {Bs:List (World→Prop)} {S:Array Bool→World→Prop} {Z:World→Prop}
theorem plainV_Y (h:plainV fs op=some v):Y P op t n fs C v:=by
 unfold plainV at h
 split at h
 ·exact Y.move h
 ·exact Y.assign h
 ·split at h
  ·rename_i x i vs hx
   exact Y.extract (vs:=vs.toList) (by simpa using hx) h
  ·cases h
 ·split at h
  ·rename_i hc;exact Y.pickT hc h
  ·rename_i hc;exact Y.pickF hc h
  ·cases h
 ·split at h
  ·rename_i hx
   cases h
   exact Y.nilCheck hx
  ·cases h
 ·cases h
inductive StepR (ops:Array Oper) (n:Nat) (fs:Fr) (o:Oper):Fr→Prop
 | pass {e:Nat} (h1:o.dst=some e) (h2:Nat.blt e n=true) (h3:passB ops fs o.guard=true):StepR ops n fs o ((e,undef) :: fs)
 | want {e:Nat} {u:Value} (h1:o.dst=some e) (h2:Nat.blt e n=true) (h3:wantB ops fs o.guard=true) (h4:plainV fs o.op=some u):StepR ops n fs o ((e,u) :: fs)
 | none (h1:o.dst=none) (h3:passB ops fs o.guard=true):StepR ops n fs o fs
theorem stepR_some (h:stepR ops n fs o=some fs'):StepR ops n fs o fs':=by
 unfold stepR at h
 split at h
 ·rename_i d hd
  split at h
  ·rename_i hb
   split at h
   ·rename_i hp
    cases h
    exact .pass hd hb hp
   ·split at h
    ·rename_i hw
     split at h
     ·rename_i v hv
      cases h
      exact .want hd hb hw hv
     ·cases h
    ·cases h
  ·cases h
 ·rename_i hd
  split at h
  ·rename_i hp
   cases h
   exact .none hd hp
  ·cases h
theorem L.step1 (h:stepR ops n fs o=some fs') (next:L P ops Q n C rest fs'):L P ops Q n C (o :: rest) fs:=by
 have h':=stepR_some h
 obtain ⟨dst,op,t,pos,af,g⟩:=o
 intro a w hs hc
 cases h' with
 | pass h1 h2 h3 =>
  simp only at h1 h3
  subst h1
  simp only [wpList,passB_out hs _ h3,Bool.false_eq_true,if_false]
  exact next _ w (hs.put h2 _) hc
 | want h1 h2 h3 h4 =>
  simp only at h1 h3 h4
  subst h1
  simp only [wpList,wantB_out hs _ h3,if_true]
  exact .inl ((plainV_Y h4:Y P op t n fs C _).wp _ pos af g hs hc fun w' hc'=>next _ w' (hs.put h2 _) hc')
 | none h1 h3 =>
  simp only at h1 h3
  subst h1
  simp only [wpList,passB_out hs _ h3,Bool.false_eq_true,if_false]
  exact next a w hs hc
theorem U.step1 (h:stepR ops n fs o=some fs') (next:U P ops Q n C rest fs'):U P ops Q n C (o :: rest) fs:=by
 have h':=stepR_some h
 obtain ⟨dst,op,t,pos,af,g⟩:=o
 intro a hs
 cases h' with
 | pass h1 h2 h3 =>
  simp only at h1 h3
  subst h1
  simp only [wpQuiet,passB_out hs _ h3,Bool.false_eq_true,if_false]
  exact next _ (hs.put h2 _)
 | want h1 h2 h3 h4 =>
  simp only at h1 h3 h4
  subst h1
  simp only [wpQuiet,wantB_out hs _ h3,if_true]
  exact ⟨_,fun w hc=>(plainV_Y h4:Y P op t n fs C _) _ _ _ _ a w hs hc,next _ (hs.put h2 _)⟩
 | none h1 h3 =>
  simp only at h1 h3
  subst h1
  simp only [wpQuiet,passB_out hs _ h3,Bool.false_eq_true,if_false]
  exact next a hs
theorem L.r:∀ (k:Nat) {l:List Oper} {fs:Fr} (h:runR ops n k l fs=some (l',fs')) (next:L P ops Q n C l' fs'),L P ops Q n C l fs
 | 0,l,fs,h,next=>by cases h;exact next
 | k+1,[],fs,h,next=>by cases h
 | k+1,o :: l,fs,h,next=>by
  unfold runR at h
  split at h
  ·rename_i fs1 h1
   exact L.step1 h1 (L.r k h next)
  ·cases h
theorem U.r:∀ (k:Nat) {l:List Oper} {fs:Fr} (h:runR ops n k l fs=some (l',fs')) (next:U P ops Q n C l' fs'),U P ops Q n C l fs
 | 0,l,fs,h,next=>by cases h;exact next
 | k+1,[],fs,h,next=>by cases h
 | k+1,o :: l,fs,h,next=>by
  unfold runR at h
  split at h
  ·rename_i fs1 h1
   exact U.step1 h1 (U.r k h next)
  ·cases h
def okV (ops:Array Oper) (bss:List (List Nat)):Array Bool→List Nat→Bool
 | _,[]=>true
 | listed,i :: r=>nx2B ops bss [] listed i && okV ops bss (listed.setIfInBounds i true) r
def markV (listed:Array Bool):List Nat→Array Bool
 | []=>listed
 | i :: r=>markV (listed.setIfInBounds i true) r
def runV (ops:Array Oper) (n:Nat):List Nat→Fr→Option Fr
 | [],fs=>some fs
 | i :: r,fs=>match ops[i]? with
  | some o=>match stepR ops n fs o with
   | some fs'=>runV ops n r fs'
   | none=>none
  | none=>none
theorem V2.step1 (hn:Nx2 ops S Z listed i o) (h:stepR ops n fs o=some fs') (next:V2 P ops Q n S (listed.setIfInBounds i true) k C fs'):V2 P ops Q n S listed (k+1) C fs:=by
 have h':=stepR_some h
 obtain ⟨dst,op,t,pos,af,g⟩:=o
 cases h' with
 | pass h1 h2 h3 =>
  simp only at h1 h3
  subst h1
  exact V2.pass hn h3 h2 next
 | want h1 h2 h3 h4 =>
  simp only at h1 h3 h4
  subst h1
  by_cases hp:plainB op=true
  ·exact V2.y hn h3 hp h2 (plainV_Y h4) next
  ·unfold plainV at h4
   split at h4
   ·exact absurd rfl hp
   ·exact absurd rfl hp
   ·exact absurd rfl hp
   ·exact absurd rfl hp
   ·split at h4
    ·rename_i hx
     cases h4
     exact V2.nilc hn h3 h2 hx next
    ·cases h4
   ·cases h4
 | none h1 h3 =>
  simp only at h1 h3
  subst h1
  exact V2.passNone hn h3 next
theorem V2.r:∀ (is:List Nat) {listed:Array Bool} {fs:Fr} {k:Nat} (h:okV ops bss listed is=true) (h2:runV ops n is fs=some fs') (next:V2 P ops Q n (stC bss Bs D) (markV listed is) k C fs'),V2 P ops Q n (stC bss Bs D) listed (k+is.length) C fs
 | [],listed,fs,k,h,h2,next=>by cases h2;exact next
 | i :: r,listed,fs,k,h,h2,next=>by
  simp only [okV,Bool.and_eq_true] at h
  unfold runV at h2
  split at h2
  ·rename_i o ho
   split at h2
   ·rename_i fs1 h3
    exact V2.step1 (Z:=fun _=>True) (Nx2.of [] h.1 ho fun _ _ _ _=>trivial) h3 (V2.r r h.2 h2 next)
   ·cases h2
  ·cases h2
end
theorem hI {D:World→Prop}:∀ w,D w→D w:=fun _ h=>h
section
variable {P:Program} {Q:Exit→Act→World→Prop} {n:Nat} {C D Z:World→Prop} {fs fs':Fr} {t:TypeId} {ops:Array Oper} {l l' rest:List Oper} {d id:Nat} {pos:String} {af:Array Edge} {op:Op} {v u:Value} {x y c:Operand} {k i:Nat} {g:Option (Nat×Bool)} {listed:Array Bool} {bss:List (List Nat)} {Bs:List (World→Prop)}
variable {w0 w:World} {own:List Nat} {m m':List As} {α ρ:Type} {r:ρ} {b off:Nat} {cs:List Value} {e te:TypeId} {cd:Code}
theorem Cls.s (h:Cls w0 own m w) (is:List Nat) (hn:is.Nodup:=by decide) (hm:is.map (m[·]?)=m'.map some:=by exact rfl):Cls w0 own m' w:=h.sel is hn hm
theorem V2.q (i:Nat) (bz:List Nat) (hz:∀ (L:Array Bool) w,stOpen bz L=true→stC bss Bs D L w→Z w) (ho:ops[i]?=some ⟨some d,op,t,pos,af,g⟩) (hg:wantB ops fs g=true) (hy:Y P op t n fs Z v)
  (next:V2 P ops Q n (stC bss Bs D) (listed.setIfInBounds i true) k C ((d,v) :: fs)) (h:nx2B ops bss bz listed i=true:=by kernel_rfl) (hp:plainB op=true:=by exact rfl) (hd:Nat.blt d n=true:=by exact rfl):V2 P ops Q n (stC bss Bs D) listed (k+1) C fs:=V2.y (Nx2.of bz h ho hz) hg hp hd hy next
theorem nsr {yy:Code} {K:Exit→Act→World→Prop} (h:L P l.toArray (Exit.then (yy.wp P K) K) n C l fs):L P ops (Exit.then ((Code.seq (.region id l.toArray false) yy).wp P K) K) n C [] fs:=L.nil (E.thenN (W.seq (W.region h)))
theorem nr {K:Exit→Act→World→Prop} (h:L P l.toArray K n C l fs):L P ops (Exit.then ((Code.region id l.toArray false).wp P K) K) n C [] fs:=L.nil (E.thenN (W.region h))
theorem sr {yy:Code} (h:L P l.toArray (Exit.then (yy.wp P Q) Q) n C l fs):W P Q n C (.seq (.region id l.toArray false) yy) fs:=W.seq (W.region h)
theorem ln {K:Exit→Act→World→Prop} (h:W P K n C cd fs):L P ops (Exit.then (cd.wp P K) K) n C [] fs:=L.nil (E.thenN h)
theorem E.jJ {J:Fr→(World→Prop)→Prop} {gs:Fr} {D:World→Prop} (h:J gs D) (hD:∀ w,C w→D w) (hF:Sub gs fs:=by (repeat refine ⟨rfl,?_⟩);trivial):E .normal (KS Q n J) n C fs:=E.joinJ h hF hD
theorem E.aJ {J:Nat→Fr→(World→Prop)→Prop} {m m':Nat} {gs:Fr} {D:World→Prop} (h:J m' gs D) (hD:∀ w,C w→D w) (hm:m' < m:=by exact Nat.lt_succ_self _) (hF:Sub gs fs:=by (repeat refine ⟨rfl,?_⟩);trivial):E .normal (KL Q n J m) n C fs:=E.againJ h hm hF hD
theorem nb {a b:Nat} (h:Nat.ble a b=true:=by exact rfl):a≤b:=Nat.le_of_ble_eq_true h
theorem sI (is:List Nat) (hn:is.Nodup:=by decide) (hm:is.map (m[·]?)=m'.map some:=by exact rfl):∀ w,Cls w0 own m w→Cls w0 own m' w:=fun _ hw=>hw.sel is hn hm
end
end Go.S
end
section
namespace Go.Proofs
open Go.Shelf
def Tryz.lays189_ren:Go.Shelf.Ren:=⟨fun | 189=>44 | 125=>71 | 257=>70 | 128=>90 | 129=>91 | 294=>81 | 295=>82 | 296=>83 | 297=>84 | 298=>85 | 299=>86 | 216=>87 | 300=>88 | 301=>89 | 328=>99 | 329=>100 | 330=>101 | 331=>102 | 332=>103 | 215=>104 | 343=>113 | n=>n,fun | 28=>23 | 3=>3 | 46=>103 | 0=>0 | 51=>137 | 53=>139 | 4=>4 | 183=>131 | 182=>130 | 131=>71 | 5=>5 | 9=>9 | 218=>146 | 222=>150 | 228=>157 | 229=>158 | n=>n,fun | n=>n⟩
theorem Tryz.lays189:Go.Proofs.Lays.n189 Tryz.prog Tryz.lays189_ren:={
 mixed:=by kernel_rfl
 f125:=Tryz.func71.trans (congrArg some (by kernel_rfl))
 f128:=Tryz.func90.trans (congrArg some (by kernel_rfl))
 f129:=Tryz.func91.trans (congrArg some (by kernel_rfl))
 f189:=Tryz.func44.trans (congrArg some (by kernel_rfl))
 f215:=Tryz.func104.trans (congrArg some (by kernel_rfl))
 f216:=Tryz.func87.trans (congrArg some (by kernel_rfl))
 f257:=Tryz.func70.trans (congrArg some (by kernel_rfl))
 f294:=Tryz.func81.trans (congrArg some (by kernel_rfl))
 f295:=Tryz.func82.trans (congrArg some (by kernel_rfl))
 f296:=Tryz.func83.trans (congrArg some (by kernel_rfl))
 f297:=Tryz.func84.trans (congrArg some (by kernel_rfl))
 f298:=Tryz.func85.trans (congrArg some (by kernel_rfl))
 f299:=Tryz.func86.trans (congrArg some (by kernel_rfl))
 f300:=Tryz.func88.trans (congrArg some (by kernel_rfl))
 f301:=Tryz.func89.trans (congrArg some (by kernel_rfl))
 f328:=Tryz.func99.trans (congrArg some (by kernel_rfl))
 f329:=Tryz.func100.trans (congrArg some (by kernel_rfl))
 f330:=Tryz.func101.trans (congrArg some (by kernel_rfl))
 f331:=Tryz.func102.trans (congrArg some (by kernel_rfl))
 f332:=Tryz.func103.trans (congrArg some (by kernel_rfl))
 f343:=Tryz.func113.trans (congrArg some (by kernel_rfl))
 t0:=Tryz.underlying0
 a0:=Tryz.isAgg0
 z0:=Tryz.sizeOf0
 v0:=Tryz.zeroValue0
 t3:=Tryz.underlying3
 a3:=Tryz.isAgg3
 z3:=Tryz.sizeOf3
 v3:=Tryz.zeroValue3
 t4:=Tryz.underlying4
 a4:=Tryz.isAgg4
 z4:=Tryz.sizeOf4
 v4:=Tryz.zeroValue4
 t5:=Tryz.underlying5
 a5:=Tryz.isAgg5
 z5:=Tryz.sizeOf5
 v5:=Tryz.zeroValue5
 t9:=Tryz.underlying9
 a9:=Tryz.isAgg9
 z9:=Tryz.sizeOf9
 v9:=Tryz.zeroValue9
 t28:=Tryz.underlying23
 a28:=Tryz.isAgg23
 z28:=Tryz.sizeOf23
 v28:=Tryz.zeroValue23
 t46:=Tryz.underlying103
 a46:=Tryz.isAgg103
 z46:=Tryz.sizeOf103
 v46:=Tryz.zeroValue103
 t51:=Tryz.underlying137
 a51:=Tryz.isAgg137
 z51:=Tryz.sizeOf137
 v51:=Tryz.zeroValue137
 t53:=Tryz.underlying139
 a53:=Tryz.isAgg139
 z53:=Tryz.sizeOf139
 v53:=Tryz.zeroValue139
 t131:=Tryz.underlying71
 a131:=Tryz.isAgg71
 z131:=Tryz.sizeOf71
 v131:=Tryz.zeroValue71
 t182:=Tryz.underlying130
 a182:=Tryz.isAgg130
 z182:=Tryz.sizeOf130
 v182:=Tryz.zeroValue130
 t183:=Tryz.underlying131
 a183:=Tryz.isAgg131
 z183:=Tryz.sizeOf131
 v183:=Tryz.zeroValue131
 t218:=Tryz.underlying146
 a218:=Tryz.isAgg146
 z218:=Tryz.sizeOf146
 v218:=Tryz.zeroValue146
 t222:=Tryz.underlying150
 a222:=Tryz.isAgg150
 z222:=Tryz.sizeOf150
 v222:=Tryz.zeroValue150
 t228:=Tryz.underlying157
 a228:=Tryz.isAgg157
 z228:=Tryz.sizeOf157
 v228:=Tryz.zeroValue157
 t229:=Tryz.underlying158
 a229:=Tryz.isAgg158
 z229:=Tryz.sizeOf158
 v229:=Tryz.zeroValue158 }
open Go.Sort Go.RowKit in
theorem Tryz.slices_Sort_int (blk off cap:Nat) (zs:List Int) (w:World) (hH:Holds (Value.int .i64) w blk off zs.toArray) (hblk:blk < w.heap.size) (hsz:zs.length < 4611686018427387904) :
  Calls Tryz.prog 44 #[.slice (some ⟨blk,off,none⟩) zs.length cap] w fun e w' =>
   e=.returned (.tuple #[])∧∃ n os,w'=grow (putRow (Value.int .i64) (Sort.ahead w n) blk off (zs.mergeSort fun x y=>decide (x≤y)).toArray) os:=Any.slices_Sort_int Tryz.lays189 blk off cap zs w hH hblk hsz
def Tryz.laysNm220_ren:Go.Shelf.Ren:=⟨fun | 20=>94 | n=>n,fun | 22=>23 | 3=>3 | 4=>4 | 0=>0 | n=>n,fun | n=>n⟩
theorem Tryz.laysNm220:Go.Proofs.Lays2.n20 Tryz.prog Tryz.laysNm220_ren:={
 mixed:=by kernel_rfl
 f20:=Tryz.func94.trans (congrArg some (by kernel_rfl))
 t0:=Tryz.underlying0
 a0:=Tryz.isAgg0
 z0:=Tryz.sizeOf0
 v0:=Tryz.zeroValue0
 t3:=Tryz.underlying3
 a3:=Tryz.isAgg3
 z3:=Tryz.sizeOf3
 v3:=Tryz.zeroValue3
 t4:=Tryz.underlying4
 a4:=Tryz.isAgg4
 z4:=Tryz.sizeOf4
 v4:=Tryz.zeroValue4
 t22:=Tryz.underlying23
 a22:=Tryz.isAgg23
 z22:=Tryz.sizeOf23
 v22:=Tryz.zeroValue23
 i3:=by kernel_rfl }
open Go.RowKit Go.Lib Go.Sort in
theorem Tryz.slices_Compact_int (blk off cap:Nat) (zs:List Int) (w:World) (hH:Holds (Value.int .i64) w blk off zs.toArray) (hsz:zs.length≤9223372036854775807) (hcap:zs.length≤cap) :
  Calls Tryz.prog 94 #[.slice (some ⟨blk,off,none⟩) zs.length cap] w fun e w'=>e=.returned (.slice (some ⟨blk,off,none⟩) (Lib.compact zs).length cap)∧∃ q,w'=putRow (Value.int .i64) (Sort.ahead w q) blk off (Lib.compact zs++List.replicate (zs.length - (Lib.compact zs).length) 0).toArray:=Any.slices_Compact_int Tryz.laysNm220 blk off cap zs w hH hsz hcap
open Go.RowKit Go.Lib Go.Sort in
theorem Tryz.slices_Compact_int_empty (a:Option Addr) (cap:Nat) (w:World) :
  Calls Tryz.prog 94 #[.slice a 0 cap] w fun e w'=>e=.returned (.slice a 0 cap)∧w'=w:=Any.slices_Compact_int_empty Tryz.laysNm220 a cap w
open Go.RowKit Go.Sort in
theorem Tryz.slices_Sort_int_none (p:Option Addr) (cap:Nat) (w:World) :
  Calls Tryz.prog 44 #[.slice p 0 cap] w fun e w'=>e=.returned (.tuple #[])∧w'=w:=Any.slices_Sort_int_none Tryz.lays189 p cap w
def Tryz.laysSlF6_f23_ren:Go.Shelf.Ren:=⟨fun | 6=>79 | 15=>71 | 14=>98 | 28=>90 | 29=>91 | 20=>105 | 21=>106 | 22=>107 | 23=>108 | 24=>109 | 25=>110 | 26=>111 | 27=>112 | 46=>114 | 47=>100 | 48=>101 | 49=>115 | 50=>116 | 57=>117 | n=>n,fun | 22=>111 | 24=>23 | 25=>128 | 3=>3 | 39=>103 | 0=>0 | 53=>137 | 55=>139 | 4=>4 | 46=>131 | 45=>130 | 50=>71 | 5=>5 | 9=>9 | 66=>146 | 70=>150 | 76=>157 | 77=>158 | n=>n,fun | n=>n⟩
theorem Tryz.laysSlF6_f23:Go.Proofs.SlLaysF.n6 Tryz.prog Tryz.laysSlF6_f23_ren:={
 mixed:=by kernel_rfl
 f6:=⟨Tryz.f79.name,by decide,Tryz.func79.trans (congrArg some (by kernel_rfl))⟩
 f14:=⟨Tryz.f98.name,by decide,Tryz.func98.trans (congrArg some (by kernel_rfl))⟩
 f15:=Tryz.func71.trans (congrArg some (by kernel_rfl))
 f20:=⟨Tryz.f105.name,by decide,Tryz.func105.trans (congrArg some (by kernel_rfl))⟩
 f21:=⟨Tryz.f106.name,by decide,Tryz.func106.trans (congrArg some (by kernel_rfl))⟩
 f22:=⟨Tryz.f107.name,by decide,Tryz.func107.trans (congrArg some (by kernel_rfl))⟩
 f23:=⟨Tryz.f108.name,by decide,Tryz.func108.trans (congrArg some (by kernel_rfl))⟩
 f24:=⟨Tryz.f109.name,by decide,Tryz.func109.trans (congrArg some (by kernel_rfl))⟩
 f25:=⟨Tryz.f110.name,by decide,Tryz.func110.trans (congrArg some (by kernel_rfl))⟩
 f26:=⟨Tryz.f111.name,by decide,Tryz.func111.trans (congrArg some (by kernel_rfl))⟩
 f27:=⟨Tryz.f112.name,by decide,Tryz.func112.trans (congrArg some (by kernel_rfl))⟩
 f28:=Tryz.func90.trans (congrArg some (by kernel_rfl))
 f29:=Tryz.func91.trans (congrArg some (by kernel_rfl))
 f46:=⟨Tryz.f114.name,by decide,Tryz.func114.trans (congrArg some (by kernel_rfl))⟩
 f47:=Tryz.func100.trans (congrArg some (by kernel_rfl))
 f48:=Tryz.func101.trans (congrArg some (by kernel_rfl))
 f49:=⟨Tryz.f115.name,by decide,Tryz.func115.trans (congrArg some (by kernel_rfl))⟩
 f50:=⟨Tryz.f116.name,by decide,Tryz.func116.trans (congrArg some (by kernel_rfl))⟩
 f57:=⟨Tryz.f117.name,by decide,Tryz.func117.trans (congrArg some (by kernel_rfl))⟩
 t0:=Tryz.underlying0
 a0:=Tryz.isAgg0
 z0:=Tryz.sizeOf0
 v0:=Tryz.zeroValue0
 t3:=Tryz.underlying3
 a3:=Tryz.isAgg3
 z3:=Tryz.sizeOf3
 v3:=Tryz.zeroValue3
 t4:=Tryz.underlying4
 a4:=Tryz.isAgg4
 z4:=Tryz.sizeOf4
 v4:=Tryz.zeroValue4
 t5:=Tryz.underlying5
 a5:=Tryz.isAgg5
 z5:=Tryz.sizeOf5
 v5:=Tryz.zeroValue5
 t9:=Tryz.underlying9
 a9:=Tryz.isAgg9
 z9:=Tryz.sizeOf9
 v9:=Tryz.zeroValue9
 t22:=Tryz.underlying111
 a22:=Tryz.isAgg111
 z22:=Tryz.sizeOf111
 v22:=Tryz.zeroValue111
 a24:=Tryz.isAgg23
 z24:=Tryz.sizeOf23
 t25:=Tryz.underlying128
 a25:=Tryz.isAgg128
 z25:=Tryz.sizeOf128
 v25:=Tryz.zeroValue128
 t39:=Tryz.underlying103
 a39:=Tryz.isAgg103
 z39:=Tryz.sizeOf103
 v39:=Tryz.zeroValue103
 t45:=Tryz.underlying130
 a45:=Tryz.isAgg130
 z45:=Tryz.sizeOf130
 v45:=Tryz.zeroValue130
 t46:=Tryz.underlying131
 a46:=Tryz.isAgg131
 z46:=Tryz.sizeOf131
 v46:=Tryz.zeroValue131
 t50:=Tryz.underlying71
 a50:=Tryz.isAgg71
 z50:=Tryz.sizeOf71
 v50:=Tryz.zeroValue71
 t53:=Tryz.underlying137
 a53:=Tryz.isAgg137
 z53:=Tryz.sizeOf137
 v53:=Tryz.zeroValue137
 t55:=Tryz.underlying139
 a55:=Tryz.isAgg139
 z55:=Tryz.sizeOf139
 v55:=Tryz.zeroValue139
 t66:=Tryz.underlying146
 a66:=Tryz.isAgg146
 z66:=Tryz.sizeOf146
 v66:=Tryz.zeroValue146
 t70:=Tryz.underlying150
 a70:=Tryz.isAgg150
 z70:=Tryz.sizeOf150
 v70:=Tryz.zeroValue150
 t76:=Tryz.underlying157
 a76:=Tryz.isAgg157
 z76:=Tryz.sizeOf157
 v76:=Tryz.zeroValue157
 t77:=Tryz.underlying158
 a77:=Tryz.isAgg158
 z77:=Tryz.sizeOf158
 v77:=Tryz.zeroValue158 }
def Tryz.laysSlF06_f23_ren:Go.Shelf.Ren:=⟨fun | 6=>79 | 15=>71 | 14=>98 | 28=>90 | 29=>91 | 20=>105 | 21=>106 | 22=>107 | 23=>108 | 24=>109 | 25=>110 | 26=>111 | 27=>112 | 46=>114 | 47=>100 | 48=>101 | 49=>115 | 50=>116 | 57=>117 | n=>n,fun | 22=>111 | 24=>23 | 25=>128 | 3=>3 | 39=>103 | 0=>0 | 53=>137 | 55=>139 | 4=>4 | 46=>131 | 45=>130 | 50=>71 | 5=>5 | 9=>9 | 66=>146 | 70=>150 | 76=>157 | 77=>158 | n=>n,fun | n=>n⟩
theorem Tryz.laysSlF06_f23:Go.Proofs.SlLaysF0.n6 Tryz.prog Tryz.laysSlF06_f23_ren:={
 mixed:=by kernel_rfl
 f6:=⟨Tryz.f79.name,by decide,Tryz.func79.trans (congrArg some (by kernel_rfl))⟩
 f14:=⟨Tryz.f98.name,by decide,Tryz.func98.trans (congrArg some (by kernel_rfl))⟩
 f15:=Tryz.func71.trans (congrArg some (by kernel_rfl))
 f20:=⟨Tryz.f105.name,by decide,Tryz.func105.trans (congrArg some (by kernel_rfl))⟩
 f21:=⟨Tryz.f106.name,by decide,Tryz.func106.trans (congrArg some (by kernel_rfl))⟩
 f22:=⟨Tryz.f107.name,by decide,Tryz.func107.trans (congrArg some (by kernel_rfl))⟩
 f23:=⟨Tryz.f108.name,by decide,Tryz.func108.trans (congrArg some (by kernel_rfl))⟩
 f24:=⟨Tryz.f109.name,by decide,Tryz.func109.trans (congrArg some (by kernel_rfl))⟩
 f25:=⟨Tryz.f110.name,by decide,Tryz.func110.trans (congrArg some (by kernel_rfl))⟩
 f26:=⟨Tryz.f111.name,by decide,Tryz.func111.trans (congrArg some (by kernel_rfl))⟩
 f27:=⟨Tryz.f112.name,by decide,Tryz.func112.trans (congrArg some (by kernel_rfl))⟩
 f28:=Tryz.func90.trans (congrArg some (by kernel_rfl))
 f29:=Tryz.func91.trans (congrArg some (by kernel_rfl))
 f46:=⟨Tryz.f114.name,by decide,Tryz.func114.trans (congrArg some (by kernel_rfl))⟩
 f47:=Tryz.func100.trans (congrArg some (by kernel_rfl))
 f48:=Tryz.func101.trans (congrArg some (by kernel_rfl))
 f49:=⟨Tryz.f115.name,by decide,Tryz.func115.trans (congrArg some (by kernel_rfl))⟩
 f50:=⟨Tryz.f116.name,by decide,Tryz.func116.trans (congrArg some (by kernel_rfl))⟩
 f57:=⟨Tryz.f117.name,by decide,Tryz.func117.trans (congrArg some (by kernel_rfl))⟩
 t0:=Tryz.underlying0
 a0:=Tryz.isAgg0
 z0:=Tryz.sizeOf0
 v0:=Tryz.zeroValue0
 t3:=Tryz.underlying3
 a3:=Tryz.isAgg3
 z3:=Tryz.sizeOf3
 v3:=Tryz.zeroValue3
 t4:=Tryz.underlying4
 a4:=Tryz.isAgg4
 z4:=Tryz.sizeOf4
 v4:=Tryz.zeroValue4
 t5:=Tryz.underlying5
 a5:=Tryz.isAgg5
 z5:=Tryz.sizeOf5
 v5:=Tryz.zeroValue5
 t9:=Tryz.underlying9
 a9:=Tryz.isAgg9
 z9:=Tryz.sizeOf9
 v9:=Tryz.zeroValue9
 t22:=Tryz.underlying111
 a22:=Tryz.isAgg111
 z22:=Tryz.sizeOf111
 v22:=Tryz.zeroValue111
 t25:=Tryz.underlying128
 a25:=Tryz.isAgg128
 z25:=Tryz.sizeOf128
 v25:=Tryz.zeroValue128
 t39:=Tryz.underlying103
 a39:=Tryz.isAgg103
 z39:=Tryz.sizeOf103
 v39:=Tryz.zeroValue103
 t45:=Tryz.underlying130
 a45:=Tryz.isAgg130
 z45:=Tryz.sizeOf130
 v45:=Tryz.zeroValue130
 t46:=Tryz.underlying131
 a46:=Tryz.isAgg131
 z46:=Tryz.sizeOf131
 v46:=Tryz.zeroValue131
 t50:=Tryz.underlying71
 a50:=Tryz.isAgg71
 z50:=Tryz.sizeOf71
 v50:=Tryz.zeroValue71
 t53:=Tryz.underlying137
 a53:=Tryz.isAgg137
 z53:=Tryz.sizeOf137
 v53:=Tryz.zeroValue137
 t55:=Tryz.underlying139
 a55:=Tryz.isAgg139
 z55:=Tryz.sizeOf139
 v55:=Tryz.zeroValue139
 t66:=Tryz.underlying146
 a66:=Tryz.isAgg146
 z66:=Tryz.sizeOf146
 v66:=Tryz.zeroValue146
 t70:=Tryz.underlying150
 a70:=Tryz.isAgg150
 z70:=Tryz.sizeOf150
 v70:=Tryz.zeroValue150
 t76:=Tryz.underlying157
 a76:=Tryz.isAgg157
 z76:=Tryz.sizeOf157
 v76:=Tryz.zeroValue157
 t77:=Tryz.underlying158
 a77:=Tryz.isAgg158
 z77:=Tryz.sizeOf158
 v77:=Tryz.zeroValue158 }
open Go.RowKit Go.Lib Go.Sort in
theorem Tryz.slices_SortFunc_none {α:Type} [Inhabited α] (p:Option Addr) (cap:Nat) (fv:Value) (w:World) :
  Calls Tryz.prog 79 #[.slice p 0 cap,fv] w fun e w'=>e=.returned (.tuple #[])∧w'=w:=AnyF.slices_SortFunc_none Tryz.laysSlF06_f23 p cap fv w
open Go.RowKit Go.Lib Go.Sort in
theorem Tryz.slices_SortFunc_total {α:Type} [Inhabited α] (enc:α→Value) (h1:OneCell enc) (cf:α→α→Int) (hO:SWO (ltOf cf)) (g:Nat) (cb:Array Value) (blk off cap:Nat) (d:Array α) (w:World) (eg:∀ args w,(callFunc g args).run Tryz.prog w=.ok (.enter g args) w) (hcmp:CmpLays1 Tryz.prog g cb enc cf blk off d.size w) (hH:Holds enc w blk off d) (hblk:blk < w.heap.size) (hsz:d.size < 4611686018427387904) (hT:∀ x y,(ltOf cf) x y=false→(ltOf cf) y x=false→x=y) :
  Calls Tryz.prog 79 #[.slice (some ⟨blk,off,none⟩) d.size cap,.func (.func g) #[] cb] w fun e w' =>
   e=.returned (.tuple #[])∧∃ n os,w'=sortWorld enc w blk off n (d.toList.mergeSort fun x y=>!(ltOf cf) y x).toArray os:=Any.slices_SortFunc_total Tryz.laysSlF6_f23 enc h1 cf hO g cb blk off cap d w eg hcmp hH hblk hsz hT
end Go.Proofs
namespace Go.Proofs.YtlecphianicdhaaGreat
open Go.S
theorem wSort:SortC Tryz.prog 44:=⟨Tryz.slices_Sort_int,Tryz.slices_Sort_int_none⟩
theorem wCompact:CompC Tryz.prog 94:=⟨Tryz.slices_Compact_int,Tryz.slices_Compact_int_empty⟩
end Go.Proofs.YtlecphianicdhaaGreat
end
section
namespace Go.Proofs.YtlecphianicdhaaGreat.rows31
open Go.S
set_option linter.unusedVariables false
set_option linter.unusedSimpArgs false
theorem mixed:Tryz.prog.follows .mixedOrders=true:=by kernel_rfl
theorem eL65:elemB Tryz.prog 65 3 56=true:=by kernel_rfl
theorem sz65:szB Tryz.prog 65 3=true:=by kernel_rfl
theorem ze65:zeroB Tryz.prog 65=some [.int .i64 0,.slice none 0 0,.slice none 0 0]:=by kernel_rfl
theorem plain_map {α:Type} {row:α→List Value} (hpl:∀ x:α,∀ u∈row x,u.oneCell'=true) (l:List α):Plain (l.map row):=by
 intro r hr u hu
 obtain ⟨x,_,rfl⟩:=List.mem_map.1 hr
 exact hpl x u hu
theorem ins_rows1 {β:Type} {R Y:List β} {z:β} {a:Nat} (ha:a < R.length) (hy:Y.length=1) :
  ((R.take a++List.replicate (R.length+1 - a) z).take a++Y.take 1++(R.take a++List.replicate (R.length+1 - a) z).drop (a+1)).take (a+1)++(R.drop a).take (R.length - a)++((R.take a++List.replicate (R.length+1 - a) z).take a++Y.take 1++(R.take a++List.replicate (R.length+1 - a) z).drop (a+1)).drop (a+1+(R.length - a))=R.take a++Y++R.drop a:=by
 have e1:(R.take a).length=a:=by rw [List.length_take];omega
 have e2:(R.take a++List.replicate (R.length+1 - a) z).take a=R.take a:=List.take_left' e1
 have e3:Y.take 1=Y:=List.take_of_length_le (by omega)
 have e4:(R.take a++Y).length=a+1:=by rw [List.length_append,e1,hy]
 have e5:(R.drop a).take (R.length - a)=R.drop a:=List.take_of_length_le (by rw [List.length_drop];omega)
 have e6:(R.take a++Y++(R.take a++List.replicate (R.length+1 - a) z).drop (a+1)).drop (a+1+(R.length - a))=[]:=List.drop_eq_nil_of_le (by simp only [List.length_append,List.length_drop,List.length_replicate,e1,hy];omega)
 rw [e2,e3,e5,List.take_left' e4,e6,List.append_nil]
theorem ins_rows2 {β:Type} {R X Y:List β} {a:Nat} (ha:a < R.length) (hy:Y.length=1) (hx:X.length=R.length+1 - R.length) :
  ((R++X).take (a+1)++((R++X).drop a).take (R.length - a)++(R++X).drop (a+1+(R.length - a))).take a++Y.take 1++((R++X).take (a+1)++((R++X).drop a).take (R.length - a)++(R++X).drop (a+1+(R.length - a))).drop (a+1)=R.take a++Y++R.drop a:=by
 have e3:Y.take 1=Y:=List.take_of_length_le (by omega)
 have e6:((R++X).drop a).take (R.length - a)=R.drop a:=by
  rw [List.drop_append_of_le_length (by omega),List.take_left' (by rw [List.length_drop])]
 have e7:(R++X).drop (a+1+(R.length - a))=[]:=List.drop_eq_nil_of_le (by rw [List.length_append];omega)
 have e8:((R++X).take (a+1)).length=a+1:=by rw [List.length_take,List.length_append];omega
 have e9:((R++X).take (a+1)++R.drop a).take a=R.take a:=by
  rw [List.take_append_of_le_length (by rw [e8];omega),List.take_take,Nat.min_eq_left (by omega),List.take_append_of_le_length (by omega)]
 rw [e6,e7,List.append_nil,e3,e9,List.drop_left' e8]
theorem copied {β:Type} {R X:List β} {a q:Nat} {r:β} (ha:a≤R.length) (hq:q=R.length - a) (hr:r∈((R++X).drop a).take q):r∈R:=by
 rw [List.drop_append_of_le_length ha,List.take_left' (by rw [List.length_drop,hq])] at hr
 exact List.mem_of_mem_drop hr
theorem lit_at {α:Type} {row:α→List Value} {x:α} {b:Nat} {e:TypeId} {w:World} (hrow:∀ x:α,(row x).length=3) (h:w.heap[b]?=some (.cells (row x).toArray e (0,0))):At w (sv b 1) 3 ([x].map row):=by
 refine ⟨.inr ⟨⟨b,0,none⟩,1,rfl,by simp,by simp [maxLen]⟩,?_,?_⟩
 ·intro r hr
  simp only [List.map_cons,List.map_nil,List.mem_singleton] at hr
  rw [hr,hrow]
 ·intro i r j y h1 h2
  cases i with
  | zero =>
   simp only [List.map_cons,List.map_nil,List.getElem?_cons_zero,Option.some.injEq] at h1
   subst h1
   simp [adr,sv,World.cell?,h,Addr.add_lit,h2]
  | succ i=>simp at h1
set_option maxRecDepth 100000 in
set_option maxHeartbeats 8000000 in
theorem insEnd {α:Type} {row:α→List Value} (hrow:∀ x:α,(row x).length=3) (hpl:∀ x:α,∀ u∈row x,u.oneCell'=true) (l:List α) (x:α) (g cap a:Nat) (v:Value) (w:World) (b:Nat) (hlit:w.heap[b]?=some (.cells (row x).toArray 65 (0,0))) (hbg:b≠g) (ha:a=l.length) (hl:l.length≤1000000000) (hw:Cls w [g] [.sl v 65 3 (l.map row)] w) :
  Calls Tryz.prog 31 [v,.int .i64 (a:Nat),sv b 1].toArray w fun en w'=>∃ v',en=.returned v'∧Cls w [g] [.sl v' 65 3 ((l.take a++[x]++l.drop a).map row)] w':=by
 have litAt:At w (sv b 1) 3 ([x].map row):=lit_at (e:=65) hrow hlit
 have hub:(adr (sv b 1)).block ∉ [g]:=by simpa [adr,sv] using hbg
 have litPlain:Plain ([x].map row):=plain_map hpl [x]
 have litPlainT:Plain (([x].map row).take 1):=litPlain
 have plainL:Plain (l.map row):=plain_map hpl l
 refine body (n:=95) Tryz.func31 rfl rfl rfl hw ?_
 refine W.seq (W.region (L.y rfl (Y.assign rfl) ?_))
 refine L.nil (E.thenN (W.seq (W.region (L.y rfl (Y.move rfl) ?_))))
 refine L.y rfl (Y.move rfl) ?_
 refine L.y rfl (Y.dropA Tryz.underlying34 sz65 rfl rfl (fun w hw=>As.at_ (hw.get (i:=0) rfl)) (by first | omega | (simp only [List.length_drop,List.length_take,List.length_append,List.length_map,List.length_replicate,List.length_singleton, *] <;> omega)) (by simp;omega)) ?_
 refine L.nil (E.thenN (W.seq (W.region (L.y rfl (Y.move rfl) ?_))))
 refine L.y rfl (Y.lenC Tryz.underlying33 rfl) ?_
 refine L.y rfl (Y.assign rfl) ?_
 refine L.nil (E.thenN (W.seq (W.seq (W.region (L.y rfl (Y.move rfl) ?_)))))
 refine L.y rfl (Y.as (congrArg Value.bool (decide_eq_false (by omega))) (Y.eql rfl rfl)) ?_
 refine L.nil (E.thenN (W.condF rfl ?_))
 refine W.skip (E.thenN (W.seq (W.region (L.y rfl (Y.move rfl) ?_))))
 refine L.y rfl (Y.lenM (g:=row) (l:=l) Tryz.underlying34 rfl (fun w hw=>As.at_ (hw.get (i:=0) rfl))) ?_
 refine L.y rfl (Y.assign rfl) ?_
 refine L.nil (E.thenN (W.seq (W.seq (W.region (L.y rfl (Y.move rfl) ?_)))))
 refine L.y rfl (Y.move rfl) ?_
 refine L.y rfl (Y.as (congrArg Value.bool (decide_eq_true (by omega))) (Y.eql rfl rfl)) ?_
 refine L.nil (E.thenN (W.condT rfl ?_))
 refine W.seq (W.region (L.y rfl (Y.move rfl) ?_))
 refine L.y rfl (Y.move rfl) ?_
 refine L.append2 (i:=0) rfl Tryz.underlying34 Tryz.underlying33 eL65 rfl rfl rfl (fun w hw=>litAt.cls hw hub) litPlain (by simp only [maxLen,List.length_map,List.length_singleton];omega) (by simp only [List.length_map,List.length_singleton];omega) (fun v2=>?_)
 refine L.y rfl (Y.assign rfl) ?_
 refine L.nil (E.thenN (W.ret (E.thenR (E.ret1 rfl rfl (fun w1 hw=>?_)))))
 exact ⟨_,rfl,by subst ha;simpa using hw⟩
set_option maxRecDepth 100000 in
set_option maxHeartbeats 8000000 in
theorem insGrow {α:Type} {row:α→List Value} (hrow:∀ x:α,(row x).length=3) (hpl:∀ x:α,∀ u∈row x,u.oneCell'=true) (l:List α) (x:α) (g cap a:Nat) (v:Value) (w:World) (b:Nat) (hlit:w.heap[b]?=some (.cells (row x).toArray 65 (0,0))) (hbg:b≠g) (ha:a < l.length) (hc:l.length≤cap) (hg:cap < l.length+1) (hl:l.length≤1000000000) (hw:Cls w [g] [.sl (rv g l.length cap) 65 3 (l.map row)] w) :
  Calls Tryz.prog 31 [rv g l.length cap,.int .i64 (a:Nat),sv b 1].toArray w fun en w'=>∃ v',en=.returned v'∧Cls w [g] [.sl v' 65 3 ((l.take a++[x]++l.drop a).map row)] w':=by
 have litAt:At w (sv b 1) 3 ([x].map row):=lit_at (e:=65) hrow hlit
 have hub:(adr (sv b 1)).block ∉ [g]:=by simpa [adr,sv] using hbg
 have litPlain:Plain ([x].map row):=plain_map hpl [x]
 have litPlainT:Plain (([x].map row).take 1):=litPlain
 have plainL:Plain (l.map row):=plain_map hpl l
 refine body (n:=95) Tryz.func31 rfl rfl rfl hw ?_
 refine W.seq (W.region (L.y rfl (Y.assign rfl) ?_))
 refine L.nil (E.thenN (W.seq (W.region (L.y rfl (Y.move rfl) ?_))))
 refine L.y rfl (Y.move rfl) ?_
 refine L.y rfl (Y.sliceLC (lo:=a) Tryz.underlying34 sz65 rfl rfl (by first | omega | (simp only [List.length_drop,List.length_take,List.length_append,List.length_map,List.length_replicate,List.length_singleton, *] <;> omega))) ?_
 refine L.nil (E.thenN (W.seq (W.region (L.y rfl (Y.move rfl) ?_))))
 refine L.y rfl (Y.lenC Tryz.underlying33 rfl) ?_
 refine L.y rfl (Y.assign rfl) ?_
 refine L.nil (E.thenN (W.seq (W.seq (W.region (L.y rfl (Y.move rfl) ?_)))))
 refine L.y rfl (Y.as (congrArg Value.bool (decide_eq_false (by omega))) (Y.eql rfl rfl)) ?_
 refine L.nil (E.thenN (W.condF rfl ?_))
 refine W.skip (E.thenN (W.seq (W.region (L.y rfl (Y.move rfl) ?_))))
 refine L.y rfl (Y.lenC Tryz.underlying34 rfl) ?_
 refine L.y rfl (Y.assign rfl) ?_
 refine L.nil (E.thenN (W.seq (W.seq (W.region (L.y rfl (Y.move rfl) ?_)))))
 refine L.y rfl (Y.move rfl) ?_
 refine L.y rfl (Y.as (congrArg Value.bool (decide_eq_false (by omega))) (Y.eql rfl rfl)) ?_
 refine L.nil (E.thenN (W.condF rfl ?_))
 refine W.skip (E.thenN (W.seq (W.seq (W.region (L.y rfl (Y.move rfl) ?_)))))
 refine L.y rfl (Y.move rfl) ?_
 refine L.y rfl (Y.addN (p:=l.length) (r:=1) rfl rfl (by omega)) ?_
 refine L.y rfl (Y.move rfl) ?_
 refine L.y rfl (Y.capC Tryz.underlying34 rfl) ?_
 refine L.y rfl (Y.as (congrArg Value.bool (decide_eq_true (by omega))) (Y.gtr rfl rfl)) ?_
 refine L.nil (E.thenN (W.condT rfl ?_))
 refine W.seq (W.region (L.y rfl (Y.move rfl) ?_))
 refine L.y rfl (Y.move rfl) ?_
 refine L.y rfl (Y.sliceHC (hi:=a) Tryz.underlying34 sz65 rfl rfl (by first | omega | (simp only [List.length_drop,List.length_take,List.length_append,List.length_map,List.length_replicate,List.length_singleton, *] <;> omega))) ?_
 refine L.y rfl (Y.move rfl) ?_
 refine L.y rfl (Y.move rfl) ?_
 refine L.y rfl (Y.addN (p:=l.length) (r:=1) rfl rfl (by omega)) ?_
 refine L.y rfl (Y.move rfl) ?_
 refine L.y rfl (Y.subN (p:=l.length+1) (r:=a) rfl rfl (by omega) (by omega)) ?_
 refine L.appFreshZ (i:=0) (a:=a) (cnt:=(l.length+1) - a) rfl Tryz.underlying34 Tryz.underlying3 eL65 ze65 rfl rfl rfl (by first | omega | (simp only [List.length_drop,List.length_take,List.length_append,List.length_map,List.length_replicate,List.length_singleton, *] <;> omega)) (by first | omega | (simp only [List.length_drop,List.length_take,List.length_append,List.length_map,List.length_replicate,List.length_singleton, *] <;> omega)) (by simp only [maxLen];omega) (by first | omega | (simp only [List.length_drop,List.length_take,List.length_append,List.length_map,List.length_replicate,List.length_singleton, *] <;> omega)) (by first | omega | (simp only [List.length_drop,List.length_take,List.length_append,List.length_map,List.length_replicate,List.length_singleton, *] <;> omega)) (fun g2 cap2 hc2=>?_)
 refine L.y rfl (Y.assign rfl) ?_
 refine L.nil (E.thenN (W.seq (W.region (L.y rfl (Y.move rfl) ?_))))
 refine L.y rfl (Y.move rfl) ?_
 refine L.y rfl (Y.sliceLC (lo:=a) Tryz.underlying34 sz65 rfl rfl (by first | omega | (simp only [List.length_drop,List.length_take,List.length_append,List.length_map,List.length_replicate,List.length_singleton, *] <;> omega))) ?_
 refine L.y rfl (Y.move rfl) ?_
 refine L.copyAt (i:=0) (a:=a) (N:=a+((l.length+1) - a)) (cap:=cap2) (more:=([x].map row)) (q:=1) rfl Tryz.underlying34 eL65 rfl rfl rfl (fun w hw=>litAt.cls hw hub) (by first | omega | (simp only [List.length_drop,List.length_take,List.length_append,List.length_map,List.length_replicate,List.length_singleton, *] <;> omega)) (by first | omega | (simp only [List.length_drop,List.length_take,List.length_append,List.length_map,List.length_replicate,List.length_singleton, *] <;> omega)) (by first | omega | (simp only [List.length_drop,List.length_take,List.length_append,List.length_map,List.length_replicate,List.length_singleton, *] <;> omega)) (litPlainT) (fun v3=>?_)
 refine L.nil (E.thenN (W.seq (W.drawn2 (k:=9) (stC [[8]] [Cls w [g] [.sl (rv g2 (a+((l.length+1) - a)) cap2) 65 3 (((l.map row).take a++List.replicate ((l.length+1) - a) [Value.int .i64 0,Value.slice none 0 0,Value.slice none 0 0]).take a++([x].map row).take 1++((l.map row).take a++List.replicate ((l.length+1) - a) [Value.int .i64 0,Value.slice none 0 0,Value.slice none 0 0]).drop (a+1)),.sl (rv g l.length cap) 65 3 (l.map row)]] (Cls w [g] [.sl (rv g l.length cap) 65 3 (l.map row)])) rfl mixed (fun _ hw=>hw.drew) (Sc.now (by kernel_rfl) (fun _ hw=>hw)) ?_)))
 refine V2.y (i:=0) (Nx2.of (Z:=Cls w [g] [.sl (rv g l.length cap) 65 3 (l.map row)]) [] (by kernel_rfl) rfl (Zc.on (fun _ hw=>hw.sel [1] (by decide) rfl) (Zc.fin (fun _ hw=>hw)))) rfl rfl rfl (Y.move rfl) ?_
 refine V2.y (i:=1) (Nx2.of (Z:=Cls w [g] [.sl (rv g l.length cap) 65 3 (l.map row)]) [] (by kernel_rfl) rfl (Zc.on (fun _ hw=>hw.sel [1] (by decide) rfl) (Zc.fin (fun _ hw=>hw)))) rfl rfl rfl (Y.move rfl) ?_
 refine V2.y (i:=2) (Nx2.of (Z:=Cls w [g] [.sl (rv g l.length cap) 65 3 (l.map row)]) [] (by kernel_rfl) rfl (Zc.on (fun _ hw=>hw.sel [1] (by decide) rfl) (Zc.fin (fun _ hw=>hw)))) rfl rfl rfl (Y.move rfl) ?_
 refine V2.y (i:=3) (Nx2.of (Z:=Cls w [g] [.sl (rv g l.length cap) 65 3 (l.map row)]) [] (by kernel_rfl) rfl (Zc.on (fun _ hw=>hw.sel [1] (by decide) rfl) (Zc.fin (fun _ hw=>hw)))) rfl rfl rfl (Y.addN (p:=a) (r:=1) rfl rfl (by omega)) ?_
 refine V2.y (i:=4) (Nx2.of (Z:=Cls w [g] [.sl (rv g2 (a+((l.length+1) - a)) cap2) 65 3 (((l.map row).take a++List.replicate ((l.length+1) - a) [Value.int .i64 0,Value.slice none 0 0,Value.slice none 0 0]).take a++([x].map row).take 1++((l.map row).take a++List.replicate ((l.length+1) - a) [Value.int .i64 0,Value.slice none 0 0,Value.slice none 0 0]).drop (a+1)),.sl (rv g l.length cap) 65 3 (l.map row)]) [8] (by kernel_rfl) rfl (Zc.at1 (fun _ hw=>hw))) rfl rfl rfl (Y.sliceLC (lo:=a+1) Tryz.underlying34 sz65 rfl rfl (by first | omega | (simp only [List.length_drop,List.length_take,List.length_append,List.length_map,List.length_replicate,List.length_singleton, *] <;> omega))) ?_
 refine V2.y (i:=5) (Nx2.of (Z:=Cls w [g] [.sl (rv g l.length cap) 65 3 (l.map row)]) [] (by kernel_rfl) rfl (Zc.on (fun _ hw=>hw.sel [1] (by decide) rfl) (Zc.fin (fun _ hw=>hw)))) rfl rfl rfl (Y.move rfl) ?_
 refine V2.y (i:=6) (Nx2.of (Z:=Cls w [g] [.sl (rv g l.length cap) 65 3 (l.map row)]) [] (by kernel_rfl) rfl (Zc.on (fun _ hw=>hw.sel [1] (by decide) rfl) (Zc.fin (fun _ hw=>hw)))) rfl rfl rfl (Y.move rfl) ?_
 refine V2.y (i:=7) (Nx2.of (Z:=Cls w [g] [.sl (rv g l.length cap) 65 3 (l.map row)]) [] (by kernel_rfl) rfl (Zc.on (fun _ hw=>hw.sel [1] (by decide) rfl) (Zc.fin (fun _ hw=>hw)))) rfl rfl rfl (Y.sliceLC (lo:=a) Tryz.underlying34 sz65 rfl rfl (by first | omega | (simp only [List.length_drop,List.length_take,List.length_append,List.length_map,List.length_replicate,List.length_singleton, *] <;> omega))) ?_
 refine V2.eff (i:=8) (by kernel_rfl) rfl ?_
 refine L.copyAt (i:=0) (a:=a+1) (N:=a+((l.length+1) - a)) (cap:=cap2) (more:=((l.map row).drop a)) (q:=(l.length - a)) rfl Tryz.underlying34 eL65 rfl rfl rfl (fun w hw=>At.sliced (N:=l.length) (As.at_ (hw.get (i:=1) rfl)) (by first | omega | (simp only [List.length_drop,List.length_take,List.length_append,List.length_map,List.length_replicate,List.length_singleton, *] <;> omega))) (by first | omega | (simp only [List.length_drop,List.length_take,List.length_append,List.length_map,List.length_replicate,List.length_singleton, *] <;> omega)) (by first | omega | (simp only [List.length_drop,List.length_take,List.length_append,List.length_map,List.length_replicate,List.length_singleton, *] <;> omega)) (by first | omega | (simp only [List.length_drop,List.length_take,List.length_append,List.length_map,List.length_replicate,List.length_singleton, *] <;> omega)) (by intro r hr;exact plainL r (List.mem_of_mem_drop (List.mem_of_mem_take hr))) (fun v3=>?_)
 refine L.nil (E.toV2 (stC [] [] (Cls w [g] [.sl (rv g l.length cap) 65 3 (l.map row)])) 8 (by kernel_rfl) (Sc.past rfl (Sc.stayD (fun _ hw=>hw))) (Sc.atD (fun _ hw=>hw.sel [1] (by decide) rfl)) ?_)
 refine V2.done (by kernel_rfl) ?_
 refine E.thenN (W.seq (W.region (L.y rfl (Y.move rfl) ?_)))
 refine L.y rfl (Y.assign rfl) ?_
 refine L.nil (E.thenN (W.ret (E.thenR (E.ret1 rfl rfl (fun w1 hw=>?_)))))
 exact ⟨_,rfl,by have h8:=hw;simp only [List.set_cons_zero] at h8;have h9:=h8.sublist (List.Sublist.cons_cons _ (List.nil_sublist _));have hlm:(l.map row).length=l.length:=List.length_map ..;rw [← hlm,ins_rows1 (by rw [List.length_map];omega) (by simp)] at h9;simpa using h9⟩
set_option maxRecDepth 100000 in
set_option maxHeartbeats 8000000 in
theorem insRoom {α:Type} {row:α→List Value} (hrow:∀ x:α,(row x).length=3) (hpl:∀ x:α,∀ u∈row x,u.oneCell'=true) (l:List α) (x:α) (g cap a:Nat) (v:Value) (w:World) (b:Nat) (hlit:w.heap[b]?=some (.cells (row x).toArray 65 (0,0))) (hbg:b≠g) (ha:a < l.length) (hg:l.length+1≤cap) (hl:l.length≤1000000000) (hw:Cls w [g] [.sl (rv g l.length cap) 65 3 (l.map row)] w) :
  Calls Tryz.prog 31 [rv g l.length cap,.int .i64 (a:Nat),sv b 1].toArray w fun en w'=>∃ v',en=.returned v'∧Cls w [g] [.sl v' 65 3 ((l.take a++[x]++l.drop a).map row)] w':=by
 have litAt:At w (sv b 1) 3 ([x].map row):=lit_at (e:=65) hrow hlit
 have hub:(adr (sv b 1)).block ∉ [g]:=by simpa [adr,sv] using hbg
 have litPlain:Plain ([x].map row):=plain_map hpl [x]
 have litPlainT:Plain (([x].map row).take 1):=litPlain
 have plainL:Plain (l.map row):=plain_map hpl l
 have ovl:∀ {N2 lo N:Nat} {rows:List (List Value)} (w':World),Cls w [g] [.sl (rv g N2 cap) 65 3 rows] w'→0 < N2→(callFunc 55 #[sv b 1,sliced (some ⟨g,0,none⟩) lo N cap 3]).run Tryz.prog w'=.ok (.value (.bool false)) w':=by
  intro N2 lo N rows w' hc hn
  have hbl:b < w.heap.size:=(Array.getElem?_eq_some_iff.1 hlit).1
  have hb':w'.heap[b]?=some (.cells (row x).toArray 65 (0,0)):=by rw [hc.old b hbl (by simpa using hbg)];exact hlit
  obtain ⟨_,_,hown⟩:=hc.get (i:=0) rfl
  rcases hown with ⟨h0,_⟩ | ⟨g',cap',cur,hv,_,hh,hnc,_,hcs,_⟩
  ·cases h0
  ·have hN2:N2=rows.length:=by simp only [Value.slice.injEq] at hv;exact hv.2.1
   cases hv
   have hk0:cur.size≠0:=by
    rw [hcs]
    have:rows.length*3≤cap*3:=Nat.mul_le_mul_right _ hnc
    omega
   have key:∀ ad:Addr,ad.block=g→(callFunc 55 #[sv b 1,.slice (some ad) (N - lo) (cap - lo)]).run Tryz.prog w'=.ok (.value (.bool false)) w':=by
    intro ad had
    rw [run_callFunc_extern Tryz.func55 (by kernel_rfl) (by kernel_rfl) (by kernel_rfl) (e:=Extern.SlicesOverlaps.overlaps #[33,33] #[4]) (by kernel_rfl)]
    have:=Lib.run_overlaps_apart (P:=Tryz.prog) w' 33 4 65 Tryz.underlying33 3 (fun w=>Go.S.run_sizeOf sz65 w) ⟨b,0,none⟩ ad 1 1 (N - lo) (cap - lo) (by rw [had];exact hbg) 65 65 (row x).length cur.size
     (by simp [World.shape?,hb']) (by rw [had];simp [World.shape?,hh]) hk0 (by simp [World.frozen?,hb']) (by simp [World.frozen?,hb'])
    unfold sv
    rw [this]
    rfl
   unfold sliced
   by_cases c:cap=lo
   ·rw [if_pos c];exact key _ rfl
   ·rw [if_neg c];exact key _ (by simp [Addr.add_lit])
 refine body (n:=95) Tryz.func31 rfl rfl rfl hw ?_
 refine W.seq (W.region (L.y rfl (Y.assign rfl) ?_))
 refine L.nil (E.thenN (W.seq (W.region (L.y rfl (Y.move rfl) ?_))))
 refine L.y rfl (Y.move rfl) ?_
 refine L.y rfl (Y.sliceLC (lo:=a) Tryz.underlying34 sz65 rfl rfl (by first | omega | (simp only [List.length_drop,List.length_take,List.length_append,List.length_map,List.length_replicate,List.length_singleton, *] <;> omega))) ?_
 refine L.nil (E.thenN (W.seq (W.region (L.y rfl (Y.move rfl) ?_))))
 refine L.y rfl (Y.lenC Tryz.underlying33 rfl) ?_
 refine L.y rfl (Y.assign rfl) ?_
 refine L.nil (E.thenN (W.seq (W.seq (W.region (L.y rfl (Y.move rfl) ?_)))))
 refine L.y rfl (Y.as (congrArg Value.bool (decide_eq_false (by omega))) (Y.eql rfl rfl)) ?_
 refine L.nil (E.thenN (W.condF rfl ?_))
 refine W.skip (E.thenN (W.seq (W.region (L.y rfl (Y.move rfl) ?_))))
 refine L.y rfl (Y.lenC Tryz.underlying34 rfl) ?_
 refine L.y rfl (Y.assign rfl) ?_
 refine L.nil (E.thenN (W.seq (W.seq (W.region (L.y rfl (Y.move rfl) ?_)))))
 refine L.y rfl (Y.move rfl) ?_
 refine L.y rfl (Y.as (congrArg Value.bool (decide_eq_false (by omega))) (Y.eql rfl rfl)) ?_
 refine L.nil (E.thenN (W.condF rfl ?_))
 refine W.skip (E.thenN (W.seq (W.seq (W.region (L.y rfl (Y.move rfl) ?_)))))
 refine L.y rfl (Y.move rfl) ?_
 refine L.y rfl (Y.addN (p:=l.length) (r:=1) rfl rfl (by omega)) ?_
 refine L.y rfl (Y.move rfl) ?_
 refine L.y rfl (Y.capC Tryz.underlying34 rfl) ?_
 refine L.y rfl (Y.as (congrArg Value.bool (decide_eq_false (by omega))) (Y.gtr rfl rfl)) ?_
 refine L.nil (E.thenN (W.condF rfl ?_))
 refine W.skip (E.thenN (W.seq (W.region (L.y rfl (Y.move rfl) ?_))))
 refine L.y rfl (Y.move rfl) ?_
 refine L.y rfl (Y.move rfl) ?_
 refine L.y rfl (Y.addN (p:=l.length) (r:=1) rfl rfl (by omega)) ?_
 refine L.extend (i:=0) (g:=g) (N:=l.length) (cap:=cap) (N':=l.length+1) rfl (by first | omega | (simp only [List.length_drop,List.length_take,List.length_append,List.length_map,List.length_replicate,List.length_singleton, *] <;> omega)) (by first | omega | (simp only [List.length_drop,List.length_take,List.length_append,List.length_map,List.length_replicate,List.length_singleton, *] <;> omega)) (fun ex hex=>?_)
 refine L.y rfl (Y.sliceHC (hi:=l.length+1) Tryz.underlying34 sz65 rfl rfl (by first | omega | (simp only [List.length_drop,List.length_take,List.length_append,List.length_map,List.length_replicate,List.length_singleton, *] <;> omega))) ?_
 refine L.y rfl (Y.assign rfl) ?_
 refine L.nil (E.thenN (W.seq (W.seq (W.region (L.y rfl (Y.move rfl) ?_)))))
 refine L.y rfl (Y.move rfl) ?_
 refine L.y rfl (Y.move rfl) ?_
 refine L.y rfl (Y.move rfl) ?_
 refine L.y rfl (Y.addN (p:=a) (r:=1) rfl rfl (by omega)) ?_
 refine L.y rfl (Y.sliceLC (lo:=a+1) Tryz.underlying34 sz65 rfl rfl (by first | omega | (simp only [List.length_drop,List.length_take,List.length_append,List.length_map,List.length_replicate,List.length_singleton, *] <;> omega))) ?_
 refine L.y rfl (Y.callVal (vs:=[sv b 1,sliced (some ⟨g,0,none⟩) (a+1) (l.length+1) cap 3]) rfl (fun w hw=>ovl w hw (by omega))) ?_
 refine L.y rfl (Y.not rfl) ?_
 refine L.nil (E.thenN (W.condT rfl ?_))
 refine W.seq (W.drawn2 (k:=9) (stC [[8]] [Cls w [g] [.sl (rv g (l.length+1) cap) 65 3 ((l.map row)++ex)]] (Cls w [g] [])) rfl mixed (fun _ hw=>hw.drew) (Sc.now (by kernel_rfl) (fun _ hw=>hw)) ?_)
 refine V2.y (i:=0) (Nx2.of (Z:=Cls w [g] []) [] (by kernel_rfl) rfl (Zc.on (fun _ hw=>hw.sel [] (by decide) rfl) (Zc.fin (fun _ hw=>hw)))) rfl rfl rfl (Y.move rfl) ?_
 refine V2.y (i:=1) (Nx2.of (Z:=Cls w [g] []) [] (by kernel_rfl) rfl (Zc.on (fun _ hw=>hw.sel [] (by decide) rfl) (Zc.fin (fun _ hw=>hw)))) rfl rfl rfl (Y.move rfl) ?_
 refine V2.y (i:=2) (Nx2.of (Z:=Cls w [g] []) [] (by kernel_rfl) rfl (Zc.on (fun _ hw=>hw.sel [] (by decide) rfl) (Zc.fin (fun _ hw=>hw)))) rfl rfl rfl (Y.move rfl) ?_
 refine V2.y (i:=3) (Nx2.of (Z:=Cls w [g] []) [] (by kernel_rfl) rfl (Zc.on (fun _ hw=>hw.sel [] (by decide) rfl) (Zc.fin (fun _ hw=>hw)))) rfl rfl rfl (Y.addN (p:=a) (r:=1) rfl rfl (by omega)) ?_
 refine V2.y (i:=4) (Nx2.of (Z:=Cls w [g] [.sl (rv g (l.length+1) cap) 65 3 ((l.map row)++ex)]) [8] (by kernel_rfl) rfl (Zc.at1 (fun _ hw=>hw))) rfl rfl rfl (Y.sliceLC (lo:=a+1) Tryz.underlying34 sz65 rfl rfl (by first | omega | (simp only [List.length_drop,List.length_take,List.length_append,List.length_map,List.length_replicate,List.length_singleton, *] <;> omega))) ?_
 refine V2.y (i:=5) (Nx2.of (Z:=Cls w [g] []) [] (by kernel_rfl) rfl (Zc.on (fun _ hw=>hw.sel [] (by decide) rfl) (Zc.fin (fun _ hw=>hw)))) rfl rfl rfl (Y.move rfl) ?_
 refine V2.y (i:=6) (Nx2.of (Z:=Cls w [g] []) [] (by kernel_rfl) rfl (Zc.on (fun _ hw=>hw.sel [] (by decide) rfl) (Zc.fin (fun _ hw=>hw)))) rfl rfl rfl (Y.move rfl) ?_
 refine V2.y (i:=7) (Nx2.of (Z:=Cls w [g] [.sl (rv g (l.length+1) cap) 65 3 ((l.map row)++ex)]) [8] (by kernel_rfl) rfl (Zc.at1 (fun _ hw=>hw))) rfl rfl rfl (Y.sliceLC (lo:=a) Tryz.underlying34 sz65 rfl rfl (by first | omega | (simp only [List.length_drop,List.length_take,List.length_append,List.length_map,List.length_replicate,List.length_singleton, *] <;> omega))) ?_
 refine V2.eff (i:=8) (by kernel_rfl) rfl ?_
 refine L.copyAt (i:=0) (a:=a+1) (N:=l.length+1) (cap:=cap) (more:=(((l.map row)++ex).drop a)) (q:=(l.length - a)) rfl Tryz.underlying34 eL65 rfl rfl rfl (fun w hw=>At.sliced (N:=(l.length+1)) (As.at_ (hw.get (i:=0) rfl)) (by first | omega | (simp only [List.length_drop,List.length_take,List.length_append,List.length_map,List.length_replicate,List.length_singleton, *] <;> omega))) (by first | omega | (simp only [List.length_drop,List.length_take,List.length_append,List.length_map,List.length_replicate,List.length_singleton, *] <;> omega)) (by first | omega | (simp only [List.length_drop,List.length_take,List.length_append,List.length_map,List.length_replicate,List.length_singleton, *] <;> omega)) (by first | omega | (simp only [List.length_drop,List.length_take,List.length_append,List.length_map,List.length_replicate,List.length_singleton, *] <;> omega)) (by intro r hr;exact plainL r (copied (by rw [List.length_map];omega) (by rw [List.length_map]) hr)) (fun v3=>?_)
 refine L.nil (E.toV2 (stC [] [] (Cls w [g] [])) 8 (by kernel_rfl) (Sc.past rfl (Sc.stayD (fun _ hw=>hw))) (Sc.atD (fun _ hw=>hw.sel [] (by decide) rfl)) ?_)
 refine V2.done (by kernel_rfl) ?_
 refine E.thenN (W.seq (W.region (L.y rfl (Y.move rfl) ?_)))
 refine L.y rfl (Y.move rfl) ?_
 refine L.y rfl (Y.sliceLC (lo:=a) Tryz.underlying34 sz65 rfl rfl (by first | omega | (simp only [List.length_drop,List.length_take,List.length_append,List.length_map,List.length_replicate,List.length_singleton, *] <;> omega))) ?_
 refine L.y rfl (Y.move rfl) ?_
 refine L.copyAt (i:=0) (a:=a) (N:=l.length+1) (cap:=cap) (more:=([x].map row)) (q:=1) rfl Tryz.underlying34 eL65 rfl rfl rfl (fun w hw=>litAt.cls hw hub) (by first | omega | (simp only [List.length_drop,List.length_take,List.length_append,List.length_map,List.length_replicate,List.length_singleton, *] <;> omega)) (by first | omega | (simp only [List.length_drop,List.length_take,List.length_append,List.length_map,List.length_replicate,List.length_singleton, *] <;> omega)) (by first | omega | (simp only [List.length_drop,List.length_take,List.length_append,List.length_map,List.length_replicate,List.length_singleton, *] <;> omega)) (litPlainT) (fun v3=>?_)
 refine L.nil (E.thenN (W.seq (W.region (L.y rfl (Y.move rfl) ?_))))
 refine L.y rfl (Y.assign rfl) ?_
 refine L.nil (E.thenN (W.ret (E.thenR (E.ret1 rfl rfl (fun w1 hw=>?_)))))
 exact ⟨_,rfl,by have hlm:(l.map row).length=l.length:=List.length_map ..;rw [← hlm] at hw hex;rw [ins_rows2 (by rw [hlm];omega) (by simp) hex] at hw;simpa using hw⟩
end Go.Proofs.YtlecphianicdhaaGreat.rows31
end
section
namespace Go.Proofs.YtlecphianicdhaaGreat.rows36
open Go.S
set_option linter.unusedVariables false
set_option linter.unusedSimpArgs false
theorem mixed:Tryz.prog.follows .mixedOrders=true:=by kernel_rfl
theorem eL68:elemB Tryz.prog 68 2 16=true:=by kernel_rfl
theorem sz68:szB Tryz.prog 68 2=true:=by kernel_rfl
theorem ze68:zeroB Tryz.prog 68=some [.int .i64 0,.int .i64 0]:=by kernel_rfl
theorem plain_map {α:Type} {row:α→List Value} (hpl:∀ x:α,∀ u∈row x,u.oneCell'=true) (l:List α):Plain (l.map row):=by
 intro r hr u hu
 obtain ⟨x,_,rfl⟩:=List.mem_map.1 hr
 exact hpl x u hu
theorem ins_rows1 {β:Type} {R Y:List β} {z:β} {a:Nat} (ha:a < R.length) (hy:Y.length=1) :
  ((R.take a++List.replicate (R.length+1 - a) z).take a++Y.take 1++(R.take a++List.replicate (R.length+1 - a) z).drop (a+1)).take (a+1)++(R.drop a).take (R.length - a)++((R.take a++List.replicate (R.length+1 - a) z).take a++Y.take 1++(R.take a++List.replicate (R.length+1 - a) z).drop (a+1)).drop (a+1+(R.length - a))=R.take a++Y++R.drop a:=by
 have e1:(R.take a).length=a:=by rw [List.length_take];omega
 have e2:(R.take a++List.replicate (R.length+1 - a) z).take a=R.take a:=List.take_left' e1
 have e3:Y.take 1=Y:=List.take_of_length_le (by omega)
 have e4:(R.take a++Y).length=a+1:=by rw [List.length_append,e1,hy]
 have e5:(R.drop a).take (R.length - a)=R.drop a:=List.take_of_length_le (by rw [List.length_drop];omega)
 have e6:(R.take a++Y++(R.take a++List.replicate (R.length+1 - a) z).drop (a+1)).drop (a+1+(R.length - a))=[]:=List.drop_eq_nil_of_le (by simp only [List.length_append,List.length_drop,List.length_replicate,e1,hy];omega)
 rw [e2,e3,e5,List.take_left' e4,e6,List.append_nil]
theorem ins_rows2 {β:Type} {R X Y:List β} {a:Nat} (ha:a < R.length) (hy:Y.length=1) (hx:X.length=R.length+1 - R.length) :
  ((R++X).take (a+1)++((R++X).drop a).take (R.length - a)++(R++X).drop (a+1+(R.length - a))).take a++Y.take 1++((R++X).take (a+1)++((R++X).drop a).take (R.length - a)++(R++X).drop (a+1+(R.length - a))).drop (a+1)=R.take a++Y++R.drop a:=by
 have e3:Y.take 1=Y:=List.take_of_length_le (by omega)
 have e6:((R++X).drop a).take (R.length - a)=R.drop a:=by
  rw [List.drop_append_of_le_length (by omega),List.take_left' (by rw [List.length_drop])]
 have e7:(R++X).drop (a+1+(R.length - a))=[]:=List.drop_eq_nil_of_le (by rw [List.length_append];omega)
 have e8:((R++X).take (a+1)).length=a+1:=by rw [List.length_take,List.length_append];omega
 have e9:((R++X).take (a+1)++R.drop a).take a=R.take a:=by
  rw [List.take_append_of_le_length (by rw [e8];omega),List.take_take,Nat.min_eq_left (by omega),List.take_append_of_le_length (by omega)]
 rw [e6,e7,List.append_nil,e3,e9,List.drop_left' e8]
theorem copied {β:Type} {R X:List β} {a q:Nat} {r:β} (ha:a≤R.length) (hq:q=R.length - a) (hr:r∈((R++X).drop a).take q):r∈R:=by
 rw [List.drop_append_of_le_length ha,List.take_left' (by rw [List.length_drop,hq])] at hr
 exact List.mem_of_mem_drop hr
theorem lit_at {α:Type} {row:α→List Value} {x:α} {b:Nat} {e:TypeId} {w:World} (hrow:∀ x:α,(row x).length=2) (h:w.heap[b]?=some (.cells (row x).toArray e (0,0))):At w (sv b 1) 2 ([x].map row):=by
 refine ⟨.inr ⟨⟨b,0,none⟩,1,rfl,by simp,by simp [maxLen]⟩,?_,?_⟩
 ·intro r hr
  simp only [List.map_cons,List.map_nil,List.mem_singleton] at hr
  rw [hr,hrow]
 ·intro i r j y h1 h2
  cases i with
  | zero =>
   simp only [List.map_cons,List.map_nil,List.getElem?_cons_zero,Option.some.injEq] at h1
   subst h1
   simp [adr,sv,World.cell?,h,Addr.add_lit,h2]
  | succ i=>simp at h1
set_option maxRecDepth 100000 in
set_option maxHeartbeats 8000000 in
theorem insEnd {α:Type} {row:α→List Value} (hrow:∀ x:α,(row x).length=2) (hpl:∀ x:α,∀ u∈row x,u.oneCell'=true) (l:List α) (x:α) (g cap a:Nat) (v:Value) (w:World) (b:Nat) (hlit:w.heap[b]?=some (.cells (row x).toArray 68 (0,0))) (hbg:b≠g) (ha:a=l.length) (hl:l.length≤1000000000) (hw:Cls w [g] [.sl v 68 2 (l.map row)] w) :
  Calls Tryz.prog 36 [v,.int .i64 (a:Nat),sv b 1].toArray w fun en w'=>∃ v',en=.returned v'∧Cls w [g] [.sl v' 68 2 ((l.take a++[x]++l.drop a).map row)] w':=by
 have litAt:At w (sv b 1) 2 ([x].map row):=lit_at (e:=68) hrow hlit
 have hub:(adr (sv b 1)).block ∉ [g]:=by simpa [adr,sv] using hbg
 have litPlain:Plain ([x].map row):=plain_map hpl [x]
 have litPlainT:Plain (([x].map row).take 1):=litPlain
 have plainL:Plain (l.map row):=plain_map hpl l
 refine body (n:=95) Tryz.func36 rfl rfl rfl hw ?_
 refine W.seq (W.region (L.y rfl (Y.assign rfl) ?_))
 refine L.nil (E.thenN (W.seq (W.region (L.y rfl (Y.move rfl) ?_))))
 refine L.y rfl (Y.move rfl) ?_
 refine L.y rfl (Y.dropA Tryz.underlying63 sz68 rfl rfl (fun w hw=>As.at_ (hw.get (i:=0) rfl)) (by first | omega | (simp only [List.length_drop,List.length_take,List.length_append,List.length_map,List.length_replicate,List.length_singleton, *] <;> omega)) (by simp;omega)) ?_
 refine L.nil (E.thenN (W.seq (W.region (L.y rfl (Y.move rfl) ?_))))
 refine L.y rfl (Y.lenC Tryz.underlying63 rfl) ?_
 refine L.y rfl (Y.assign rfl) ?_
 refine L.nil (E.thenN (W.seq (W.seq (W.region (L.y rfl (Y.move rfl) ?_)))))
 refine L.y rfl (Y.as (congrArg Value.bool (decide_eq_false (by omega))) (Y.eql rfl rfl)) ?_
 refine L.nil (E.thenN (W.condF rfl ?_))
 refine W.skip (E.thenN (W.seq (W.region (L.y rfl (Y.move rfl) ?_))))
 refine L.y rfl (Y.lenM (g:=row) (l:=l) Tryz.underlying63 rfl (fun w hw=>As.at_ (hw.get (i:=0) rfl))) ?_
 refine L.y rfl (Y.assign rfl) ?_
 refine L.nil (E.thenN (W.seq (W.seq (W.region (L.y rfl (Y.move rfl) ?_)))))
 refine L.y rfl (Y.move rfl) ?_
 refine L.y rfl (Y.as (congrArg Value.bool (decide_eq_true (by omega))) (Y.eql rfl rfl)) ?_
 refine L.nil (E.thenN (W.condT rfl ?_))
 refine W.seq (W.region (L.y rfl (Y.move rfl) ?_))
 refine L.y rfl (Y.move rfl) ?_
 refine L.append (i:=0) rfl Tryz.underlying63 eL68 rfl rfl rfl (fun w hw=>litAt.cls hw hub) litPlain (by simp only [maxLen,List.length_map,List.length_singleton];omega) (by simp only [List.length_map,List.length_singleton];omega) (fun v2=>?_)
 refine L.y rfl (Y.assign rfl) ?_
 refine L.nil (E.thenN (W.ret (E.thenR (E.ret1 rfl rfl (fun w1 hw=>?_)))))
 exact ⟨_,rfl,by subst ha;simpa using hw⟩
set_option maxRecDepth 100000 in
set_option maxHeartbeats 8000000 in
theorem insGrow {α:Type} {row:α→List Value} (hrow:∀ x:α,(row x).length=2) (hpl:∀ x:α,∀ u∈row x,u.oneCell'=true) (l:List α) (x:α) (g cap a:Nat) (v:Value) (w:World) (b:Nat) (hlit:w.heap[b]?=some (.cells (row x).toArray 68 (0,0))) (hbg:b≠g) (ha:a < l.length) (hc:l.length≤cap) (hg:cap < l.length+1) (hl:l.length≤1000000000) (hw:Cls w [g] [.sl (rv g l.length cap) 68 2 (l.map row)] w) :
  Calls Tryz.prog 36 [rv g l.length cap,.int .i64 (a:Nat),sv b 1].toArray w fun en w'=>∃ v',en=.returned v'∧Cls w [g] [.sl v' 68 2 ((l.take a++[x]++l.drop a).map row)] w':=by
 have litAt:At w (sv b 1) 2 ([x].map row):=lit_at (e:=68) hrow hlit
 have hub:(adr (sv b 1)).block ∉ [g]:=by simpa [adr,sv] using hbg
 have litPlain:Plain ([x].map row):=plain_map hpl [x]
 have litPlainT:Plain (([x].map row).take 1):=litPlain
 have plainL:Plain (l.map row):=plain_map hpl l
 refine body (n:=95) Tryz.func36 rfl rfl rfl hw ?_
 refine W.seq (W.region (L.y rfl (Y.assign rfl) ?_))
 refine L.nil (E.thenN (W.seq (W.region (L.y rfl (Y.move rfl) ?_))))
 refine L.y rfl (Y.move rfl) ?_
 refine L.y rfl (Y.sliceLC (lo:=a) Tryz.underlying63 sz68 rfl rfl (by first | omega | (simp only [List.length_drop,List.length_take,List.length_append,List.length_map,List.length_replicate,List.length_singleton, *] <;> omega))) ?_
 refine L.nil (E.thenN (W.seq (W.region (L.y rfl (Y.move rfl) ?_))))
 refine L.y rfl (Y.lenC Tryz.underlying63 rfl) ?_
 refine L.y rfl (Y.assign rfl) ?_
 refine L.nil (E.thenN (W.seq (W.seq (W.region (L.y rfl (Y.move rfl) ?_)))))
 refine L.y rfl (Y.as (congrArg Value.bool (decide_eq_false (by omega))) (Y.eql rfl rfl)) ?_
 refine L.nil (E.thenN (W.condF rfl ?_))
 refine W.skip (E.thenN (W.seq (W.region (L.y rfl (Y.move rfl) ?_))))
 refine L.y rfl (Y.lenC Tryz.underlying63 rfl) ?_
 refine L.y rfl (Y.assign rfl) ?_
 refine L.nil (E.thenN (W.seq (W.seq (W.region (L.y rfl (Y.move rfl) ?_)))))
 refine L.y rfl (Y.move rfl) ?_
 refine L.y rfl (Y.as (congrArg Value.bool (decide_eq_false (by omega))) (Y.eql rfl rfl)) ?_
 refine L.nil (E.thenN (W.condF rfl ?_))
 refine W.skip (E.thenN (W.seq (W.seq (W.region (L.y rfl (Y.move rfl) ?_)))))
 refine L.y rfl (Y.move rfl) ?_
 refine L.y rfl (Y.addN (p:=l.length) (r:=1) rfl rfl (by omega)) ?_
 refine L.y rfl (Y.move rfl) ?_
 refine L.y rfl (Y.capC Tryz.underlying63 rfl) ?_
 refine L.y rfl (Y.as (congrArg Value.bool (decide_eq_true (by omega))) (Y.gtr rfl rfl)) ?_
 refine L.nil (E.thenN (W.condT rfl ?_))
 refine W.seq (W.region (L.y rfl (Y.move rfl) ?_))
 refine L.y rfl (Y.move rfl) ?_
 refine L.y rfl (Y.sliceHC (hi:=a) Tryz.underlying63 sz68 rfl rfl (by first | omega | (simp only [List.length_drop,List.length_take,List.length_append,List.length_map,List.length_replicate,List.length_singleton, *] <;> omega))) ?_
 refine L.y rfl (Y.move rfl) ?_
 refine L.y rfl (Y.move rfl) ?_
 refine L.y rfl (Y.addN (p:=l.length) (r:=1) rfl rfl (by omega)) ?_
 refine L.y rfl (Y.move rfl) ?_
 refine L.y rfl (Y.subN (p:=l.length+1) (r:=a) rfl rfl (by omega) (by omega)) ?_
 refine L.appFreshZ (i:=0) (a:=a) (cnt:=(l.length+1) - a) rfl Tryz.underlying63 Tryz.underlying3 eL68 ze68 rfl rfl rfl (by first | omega | (simp only [List.length_drop,List.length_take,List.length_append,List.length_map,List.length_replicate,List.length_singleton, *] <;> omega)) (by first | omega | (simp only [List.length_drop,List.length_take,List.length_append,List.length_map,List.length_replicate,List.length_singleton, *] <;> omega)) (by simp only [maxLen];omega) (by first | omega | (simp only [List.length_drop,List.length_take,List.length_append,List.length_map,List.length_replicate,List.length_singleton, *] <;> omega)) (by first | omega | (simp only [List.length_drop,List.length_take,List.length_append,List.length_map,List.length_replicate,List.length_singleton, *] <;> omega)) (fun g2 cap2 hc2=>?_)
 refine L.y rfl (Y.assign rfl) ?_
 refine L.nil (E.thenN (W.seq (W.region (L.y rfl (Y.move rfl) ?_))))
 refine L.y rfl (Y.move rfl) ?_
 refine L.y rfl (Y.sliceLC (lo:=a) Tryz.underlying63 sz68 rfl rfl (by first | omega | (simp only [List.length_drop,List.length_take,List.length_append,List.length_map,List.length_replicate,List.length_singleton, *] <;> omega))) ?_
 refine L.y rfl (Y.move rfl) ?_
 refine L.copyAt (i:=0) (a:=a) (N:=a+((l.length+1) - a)) (cap:=cap2) (more:=([x].map row)) (q:=1) rfl Tryz.underlying63 eL68 rfl rfl rfl (fun w hw=>litAt.cls hw hub) (by first | omega | (simp only [List.length_drop,List.length_take,List.length_append,List.length_map,List.length_replicate,List.length_singleton, *] <;> omega)) (by first | omega | (simp only [List.length_drop,List.length_take,List.length_append,List.length_map,List.length_replicate,List.length_singleton, *] <;> omega)) (by first | omega | (simp only [List.length_drop,List.length_take,List.length_append,List.length_map,List.length_replicate,List.length_singleton, *] <;> omega)) (litPlainT) (fun v3=>?_)
 refine L.nil (E.thenN (W.seq (W.drawn2 (k:=9) (stC [[8]] [Cls w [g] [.sl (rv g2 (a+((l.length+1) - a)) cap2) 68 2 (((l.map row).take a++List.replicate ((l.length+1) - a) [Value.int .i64 0,Value.int .i64 0]).take a++([x].map row).take 1++((l.map row).take a++List.replicate ((l.length+1) - a) [Value.int .i64 0,Value.int .i64 0]).drop (a+1)),.sl (rv g l.length cap) 68 2 (l.map row)]] (Cls w [g] [.sl (rv g l.length cap) 68 2 (l.map row)])) rfl mixed (fun _ hw=>hw.drew) (Sc.now (by kernel_rfl) (fun _ hw=>hw)) ?_)))
 refine V2.y (i:=0) (Nx2.of (Z:=Cls w [g] [.sl (rv g l.length cap) 68 2 (l.map row)]) [] (by kernel_rfl) rfl (Zc.on (fun _ hw=>hw.sel [1] (by decide) rfl) (Zc.fin (fun _ hw=>hw)))) rfl rfl rfl (Y.move rfl) ?_
 refine V2.y (i:=1) (Nx2.of (Z:=Cls w [g] [.sl (rv g l.length cap) 68 2 (l.map row)]) [] (by kernel_rfl) rfl (Zc.on (fun _ hw=>hw.sel [1] (by decide) rfl) (Zc.fin (fun _ hw=>hw)))) rfl rfl rfl (Y.move rfl) ?_
 refine V2.y (i:=2) (Nx2.of (Z:=Cls w [g] [.sl (rv g l.length cap) 68 2 (l.map row)]) [] (by kernel_rfl) rfl (Zc.on (fun _ hw=>hw.sel [1] (by decide) rfl) (Zc.fin (fun _ hw=>hw)))) rfl rfl rfl (Y.move rfl) ?_
 refine V2.y (i:=3) (Nx2.of (Z:=Cls w [g] [.sl (rv g l.length cap) 68 2 (l.map row)]) [] (by kernel_rfl) rfl (Zc.on (fun _ hw=>hw.sel [1] (by decide) rfl) (Zc.fin (fun _ hw=>hw)))) rfl rfl rfl (Y.addN (p:=a) (r:=1) rfl rfl (by omega)) ?_
 refine V2.y (i:=4) (Nx2.of (Z:=Cls w [g] [.sl (rv g2 (a+((l.length+1) - a)) cap2) 68 2 (((l.map row).take a++List.replicate ((l.length+1) - a) [Value.int .i64 0,Value.int .i64 0]).take a++([x].map row).take 1++((l.map row).take a++List.replicate ((l.length+1) - a) [Value.int .i64 0,Value.int .i64 0]).drop (a+1)),.sl (rv g l.length cap) 68 2 (l.map row)]) [8] (by kernel_rfl) rfl (Zc.at1 (fun _ hw=>hw))) rfl rfl rfl (Y.sliceLC (lo:=a+1) Tryz.underlying63 sz68 rfl rfl (by first | omega | (simp only [List.length_drop,List.length_take,List.length_append,List.length_map,List.length_replicate,List.length_singleton, *] <;> omega))) ?_
 refine V2.y (i:=5) (Nx2.of (Z:=Cls w [g] [.sl (rv g l.length cap) 68 2 (l.map row)]) [] (by kernel_rfl) rfl (Zc.on (fun _ hw=>hw.sel [1] (by decide) rfl) (Zc.fin (fun _ hw=>hw)))) rfl rfl rfl (Y.move rfl) ?_
 refine V2.y (i:=6) (Nx2.of (Z:=Cls w [g] [.sl (rv g l.length cap) 68 2 (l.map row)]) [] (by kernel_rfl) rfl (Zc.on (fun _ hw=>hw.sel [1] (by decide) rfl) (Zc.fin (fun _ hw=>hw)))) rfl rfl rfl (Y.move rfl) ?_
 refine V2.y (i:=7) (Nx2.of (Z:=Cls w [g] [.sl (rv g l.length cap) 68 2 (l.map row)]) [] (by kernel_rfl) rfl (Zc.on (fun _ hw=>hw.sel [1] (by decide) rfl) (Zc.fin (fun _ hw=>hw)))) rfl rfl rfl (Y.sliceLC (lo:=a) Tryz.underlying63 sz68 rfl rfl (by first | omega | (simp only [List.length_drop,List.length_take,List.length_append,List.length_map,List.length_replicate,List.length_singleton, *] <;> omega))) ?_
 refine V2.eff (i:=8) (by kernel_rfl) rfl ?_
 refine L.copyAt (i:=0) (a:=a+1) (N:=a+((l.length+1) - a)) (cap:=cap2) (more:=((l.map row).drop a)) (q:=(l.length - a)) rfl Tryz.underlying63 eL68 rfl rfl rfl (fun w hw=>At.sliced (N:=l.length) (As.at_ (hw.get (i:=1) rfl)) (by first | omega | (simp only [List.length_drop,List.length_take,List.length_append,List.length_map,List.length_replicate,List.length_singleton, *] <;> omega))) (by first | omega | (simp only [List.length_drop,List.length_take,List.length_append,List.length_map,List.length_replicate,List.length_singleton, *] <;> omega)) (by first | omega | (simp only [List.length_drop,List.length_take,List.length_append,List.length_map,List.length_replicate,List.length_singleton, *] <;> omega)) (by first | omega | (simp only [List.length_drop,List.length_take,List.length_append,List.length_map,List.length_replicate,List.length_singleton, *] <;> omega)) (by intro r hr;exact plainL r (List.mem_of_mem_drop (List.mem_of_mem_take hr))) (fun v3=>?_)
 refine L.nil (E.toV2 (stC [] [] (Cls w [g] [.sl (rv g l.length cap) 68 2 (l.map row)])) 8 (by kernel_rfl) (Sc.past rfl (Sc.stayD (fun _ hw=>hw))) (Sc.atD (fun _ hw=>hw.sel [1] (by decide) rfl)) ?_)
 refine V2.done (by kernel_rfl) ?_
 refine E.thenN (W.seq (W.region (L.y rfl (Y.move rfl) ?_)))
 refine L.y rfl (Y.assign rfl) ?_
 refine L.nil (E.thenN (W.ret (E.thenR (E.ret1 rfl rfl (fun w1 hw=>?_)))))
 exact ⟨_,rfl,by have h8:=hw;simp only [List.set_cons_zero] at h8;have h9:=h8.sublist (List.Sublist.cons_cons _ (List.nil_sublist _));have hlm:(l.map row).length=l.length:=List.length_map ..;rw [← hlm,ins_rows1 (by rw [List.length_map];omega) (by simp)] at h9;simpa using h9⟩
set_option maxRecDepth 100000 in
set_option maxHeartbeats 8000000 in
theorem insRoom {α:Type} {row:α→List Value} (hrow:∀ x:α,(row x).length=2) (hpl:∀ x:α,∀ u∈row x,u.oneCell'=true) (l:List α) (x:α) (g cap a:Nat) (v:Value) (w:World) (b:Nat) (hlit:w.heap[b]?=some (.cells (row x).toArray 68 (0,0))) (hbg:b≠g) (ha:a < l.length) (hg:l.length+1≤cap) (hl:l.length≤1000000000) (hw:Cls w [g] [.sl (rv g l.length cap) 68 2 (l.map row)] w) :
  Calls Tryz.prog 36 [rv g l.length cap,.int .i64 (a:Nat),sv b 1].toArray w fun en w'=>∃ v',en=.returned v'∧Cls w [g] [.sl v' 68 2 ((l.take a++[x]++l.drop a).map row)] w':=by
 have litAt:At w (sv b 1) 2 ([x].map row):=lit_at (e:=68) hrow hlit
 have hub:(adr (sv b 1)).block ∉ [g]:=by simpa [adr,sv] using hbg
 have litPlain:Plain ([x].map row):=plain_map hpl [x]
 have litPlainT:Plain (([x].map row).take 1):=litPlain
 have plainL:Plain (l.map row):=plain_map hpl l
 have ovl:∀ {N2 lo N:Nat} {rows:List (List Value)} (w':World),Cls w [g] [.sl (rv g N2 cap) 68 2 rows] w'→0 < N2→(callFunc 60 #[sv b 1,sliced (some ⟨g,0,none⟩) lo N cap 2]).run Tryz.prog w'=.ok (.value (.bool false)) w':=by
  intro N2 lo N rows w' hc hn
  have hbl:b < w.heap.size:=(Array.getElem?_eq_some_iff.1 hlit).1
  have hb':w'.heap[b]?=some (.cells (row x).toArray 68 (0,0)):=by rw [hc.old b hbl (by simpa using hbg)];exact hlit
  obtain ⟨_,_,hown⟩:=hc.get (i:=0) rfl
  rcases hown with ⟨h0,_⟩ | ⟨g',cap',cur,hv,_,hh,hnc,_,hcs,_⟩
  ·cases h0
  ·have hN2:N2=rows.length:=by simp only [Value.slice.injEq] at hv;exact hv.2.1
   cases hv
   have hk0:cur.size≠0:=by
    rw [hcs]
    have:rows.length*2≤cap*2:=Nat.mul_le_mul_right _ hnc
    omega
   have key:∀ ad:Addr,ad.block=g→(callFunc 60 #[sv b 1,.slice (some ad) (N - lo) (cap - lo)]).run Tryz.prog w'=.ok (.value (.bool false)) w':=by
    intro ad had
    rw [run_callFunc_extern Tryz.func60 (by kernel_rfl) (by kernel_rfl) (by kernel_rfl) (e:=Extern.SlicesOverlaps.overlaps #[63,63] #[4]) (by kernel_rfl)]
    have:=Lib.run_overlaps_apart (P:=Tryz.prog) w' 63 4 68 Tryz.underlying63 2 (fun w=>Go.S.run_sizeOf sz68 w) ⟨b,0,none⟩ ad 1 1 (N - lo) (cap - lo) (by rw [had];exact hbg) 68 68 (row x).length cur.size
     (by simp [World.shape?,hb']) (by rw [had];simp [World.shape?,hh]) hk0 (by simp [World.frozen?,hb']) (by simp [World.frozen?,hb'])
    unfold sv
    rw [this]
    rfl
   unfold sliced
   by_cases c:cap=lo
   ·rw [if_pos c];exact key _ rfl
   ·rw [if_neg c];exact key _ (by simp [Addr.add_lit])
 refine body (n:=95) Tryz.func36 rfl rfl rfl hw ?_
 refine W.seq (W.region (L.y rfl (Y.assign rfl) ?_))
 refine L.nil (E.thenN (W.seq (W.region (L.y rfl (Y.move rfl) ?_))))
 refine L.y rfl (Y.move rfl) ?_
 refine L.y rfl (Y.sliceLC (lo:=a) Tryz.underlying63 sz68 rfl rfl (by first | omega | (simp only [List.length_drop,List.length_take,List.length_append,List.length_map,List.length_replicate,List.length_singleton, *] <;> omega))) ?_
 refine L.nil (E.thenN (W.seq (W.region (L.y rfl (Y.move rfl) ?_))))
 refine L.y rfl (Y.lenC Tryz.underlying63 rfl) ?_
 refine L.y rfl (Y.assign rfl) ?_
 refine L.nil (E.thenN (W.seq (W.seq (W.region (L.y rfl (Y.move rfl) ?_)))))
 refine L.y rfl (Y.as (congrArg Value.bool (decide_eq_false (by omega))) (Y.eql rfl rfl)) ?_
 refine L.nil (E.thenN (W.condF rfl ?_))
 refine W.skip (E.thenN (W.seq (W.region (L.y rfl (Y.move rfl) ?_))))
 refine L.y rfl (Y.lenC Tryz.underlying63 rfl) ?_
 refine L.y rfl (Y.assign rfl) ?_
 refine L.nil (E.thenN (W.seq (W.seq (W.region (L.y rfl (Y.move rfl) ?_)))))
 refine L.y rfl (Y.move rfl) ?_
 refine L.y rfl (Y.as (congrArg Value.bool (decide_eq_false (by omega))) (Y.eql rfl rfl)) ?_
 refine L.nil (E.thenN (W.condF rfl ?_))
 refine W.skip (E.thenN (W.seq (W.seq (W.region (L.y rfl (Y.move rfl) ?_)))))
 refine L.y rfl (Y.move rfl) ?_
 refine L.y rfl (Y.addN (p:=l.length) (r:=1) rfl rfl (by omega)) ?_
 refine L.y rfl (Y.move rfl) ?_
 refine L.y rfl (Y.capC Tryz.underlying63 rfl) ?_
 refine L.y rfl (Y.as (congrArg Value.bool (decide_eq_false (by omega))) (Y.gtr rfl rfl)) ?_
 refine L.nil (E.thenN (W.condF rfl ?_))
 refine W.skip (E.thenN (W.seq (W.region (L.y rfl (Y.move rfl) ?_))))
 refine L.y rfl (Y.move rfl) ?_
 refine L.y rfl (Y.move rfl) ?_
 refine L.y rfl (Y.addN (p:=l.length) (r:=1) rfl rfl (by omega)) ?_
 refine L.extend (i:=0) (g:=g) (N:=l.length) (cap:=cap) (N':=l.length+1) rfl (by first | omega | (simp only [List.length_drop,List.length_take,List.length_append,List.length_map,List.length_replicate,List.length_singleton, *] <;> omega)) (by first | omega | (simp only [List.length_drop,List.length_take,List.length_append,List.length_map,List.length_replicate,List.length_singleton, *] <;> omega)) (fun ex hex=>?_)
 refine L.y rfl (Y.sliceHC (hi:=l.length+1) Tryz.underlying63 sz68 rfl rfl (by first | omega | (simp only [List.length_drop,List.length_take,List.length_append,List.length_map,List.length_replicate,List.length_singleton, *] <;> omega))) ?_
 refine L.y rfl (Y.assign rfl) ?_
 refine L.nil (E.thenN (W.seq (W.seq (W.region (L.y rfl (Y.move rfl) ?_)))))
 refine L.y rfl (Y.move rfl) ?_
 refine L.y rfl (Y.move rfl) ?_
 refine L.y rfl (Y.move rfl) ?_
 refine L.y rfl (Y.addN (p:=a) (r:=1) rfl rfl (by omega)) ?_
 refine L.y rfl (Y.sliceLC (lo:=a+1) Tryz.underlying63 sz68 rfl rfl (by first | omega | (simp only [List.length_drop,List.length_take,List.length_append,List.length_map,List.length_replicate,List.length_singleton, *] <;> omega))) ?_
 refine L.y rfl (Y.callVal (vs:=[sv b 1,sliced (some ⟨g,0,none⟩) (a+1) (l.length+1) cap 2]) rfl (fun w hw=>ovl w hw (by omega))) ?_
 refine L.y rfl (Y.not rfl) ?_
 refine L.nil (E.thenN (W.condT rfl ?_))
 refine W.seq (W.drawn2 (k:=9) (stC [[8]] [Cls w [g] [.sl (rv g (l.length+1) cap) 68 2 ((l.map row)++ex)]] (Cls w [g] [])) rfl mixed (fun _ hw=>hw.drew) (Sc.now (by kernel_rfl) (fun _ hw=>hw)) ?_)
 refine V2.y (i:=0) (Nx2.of (Z:=Cls w [g] []) [] (by kernel_rfl) rfl (Zc.on (fun _ hw=>hw.sel [] (by decide) rfl) (Zc.fin (fun _ hw=>hw)))) rfl rfl rfl (Y.move rfl) ?_
 refine V2.y (i:=1) (Nx2.of (Z:=Cls w [g] []) [] (by kernel_rfl) rfl (Zc.on (fun _ hw=>hw.sel [] (by decide) rfl) (Zc.fin (fun _ hw=>hw)))) rfl rfl rfl (Y.move rfl) ?_
 refine V2.y (i:=2) (Nx2.of (Z:=Cls w [g] []) [] (by kernel_rfl) rfl (Zc.on (fun _ hw=>hw.sel [] (by decide) rfl) (Zc.fin (fun _ hw=>hw)))) rfl rfl rfl (Y.move rfl) ?_
 refine V2.y (i:=3) (Nx2.of (Z:=Cls w [g] []) [] (by kernel_rfl) rfl (Zc.on (fun _ hw=>hw.sel [] (by decide) rfl) (Zc.fin (fun _ hw=>hw)))) rfl rfl rfl (Y.addN (p:=a) (r:=1) rfl rfl (by omega)) ?_
 refine V2.y (i:=4) (Nx2.of (Z:=Cls w [g] [.sl (rv g (l.length+1) cap) 68 2 ((l.map row)++ex)]) [8] (by kernel_rfl) rfl (Zc.at1 (fun _ hw=>hw))) rfl rfl rfl (Y.sliceLC (lo:=a+1) Tryz.underlying63 sz68 rfl rfl (by first | omega | (simp only [List.length_drop,List.length_take,List.length_append,List.length_map,List.length_replicate,List.length_singleton, *] <;> omega))) ?_
 refine V2.y (i:=5) (Nx2.of (Z:=Cls w [g] []) [] (by kernel_rfl) rfl (Zc.on (fun _ hw=>hw.sel [] (by decide) rfl) (Zc.fin (fun _ hw=>hw)))) rfl rfl rfl (Y.move rfl) ?_
 refine V2.y (i:=6) (Nx2.of (Z:=Cls w [g] []) [] (by kernel_rfl) rfl (Zc.on (fun _ hw=>hw.sel [] (by decide) rfl) (Zc.fin (fun _ hw=>hw)))) rfl rfl rfl (Y.move rfl) ?_
 refine V2.y (i:=7) (Nx2.of (Z:=Cls w [g] [.sl (rv g (l.length+1) cap) 68 2 ((l.map row)++ex)]) [8] (by kernel_rfl) rfl (Zc.at1 (fun _ hw=>hw))) rfl rfl rfl (Y.sliceLC (lo:=a) Tryz.underlying63 sz68 rfl rfl (by first | omega | (simp only [List.length_drop,List.length_take,List.length_append,List.length_map,List.length_replicate,List.length_singleton, *] <;> omega))) ?_
 refine V2.eff (i:=8) (by kernel_rfl) rfl ?_
 refine L.copyAt (i:=0) (a:=a+1) (N:=l.length+1) (cap:=cap) (more:=(((l.map row)++ex).drop a)) (q:=(l.length - a)) rfl Tryz.underlying63 eL68 rfl rfl rfl (fun w hw=>At.sliced (N:=(l.length+1)) (As.at_ (hw.get (i:=0) rfl)) (by first | omega | (simp only [List.length_drop,List.length_take,List.length_append,List.length_map,List.length_replicate,List.length_singleton, *] <;> omega))) (by first | omega | (simp only [List.length_drop,List.length_take,List.length_append,List.length_map,List.length_replicate,List.length_singleton, *] <;> omega)) (by first | omega | (simp only [List.length_drop,List.length_take,List.length_append,List.length_map,List.length_replicate,List.length_singleton, *] <;> omega)) (by first | omega | (simp only [List.length_drop,List.length_take,List.length_append,List.length_map,List.length_replicate,List.length_singleton, *] <;> omega)) (by intro r hr;exact plainL r (copied (by rw [List.length_map];omega) (by rw [List.length_map]) hr)) (fun v3=>?_)
 refine L.nil (E.toV2 (stC [] [] (Cls w [g] [])) 8 (by kernel_rfl) (Sc.past rfl (Sc.stayD (fun _ hw=>hw))) (Sc.atD (fun _ hw=>hw.sel [] (by decide) rfl)) ?_)
 refine V2.done (by kernel_rfl) ?_
 refine E.thenN (W.seq (W.region (L.y rfl (Y.move rfl) ?_)))
 refine L.y rfl (Y.move rfl) ?_
 refine L.y rfl (Y.sliceLC (lo:=a) Tryz.underlying63 sz68 rfl rfl (by first | omega | (simp only [List.length_drop,List.length_take,List.length_append,List.length_map,List.length_replicate,List.length_singleton, *] <;> omega))) ?_
 refine L.y rfl (Y.move rfl) ?_
 refine L.copyAt (i:=0) (a:=a) (N:=l.length+1) (cap:=cap) (more:=([x].map row)) (q:=1) rfl Tryz.underlying63 eL68 rfl rfl rfl (fun w hw=>litAt.cls hw hub) (by first | omega | (simp only [List.length_drop,List.length_take,List.length_append,List.length_map,List.length_replicate,List.length_singleton, *] <;> omega)) (by first | omega | (simp only [List.length_drop,List.length_take,List.length_append,List.length_map,List.length_replicate,List.length_singleton, *] <;> omega)) (by first | omega | (simp only [List.length_drop,List.length_take,List.length_append,List.length_map,List.length_replicate,List.length_singleton, *] <;> omega)) (litPlainT) (fun v3=>?_)
 refine L.nil (E.thenN (W.seq (W.region (L.y rfl (Y.move rfl) ?_))))
 refine L.y rfl (Y.assign rfl) ?_
 refine L.nil (E.thenN (W.ret (E.thenR (E.ret1 rfl rfl (fun w1 hw=>?_)))))
 exact ⟨_,rfl,by have hlm:(l.map row).length=l.length:=List.length_map ..;rw [← hlm] at hw hex;rw [ins_rows2 (by rw [hlm];omega) (by simp) hex] at hw;simpa using hw⟩
end Go.Proofs.YtlecphianicdhaaGreat.rows36
end
section
namespace Go.Proofs.YtlecphianicdhaaGreat
open Go.S Go.Sort Go.Proofs Go.Shelf
set_option linter.unusedVariables false
set_option linter.unusedSimpArgs false
theorem oneL (x:TL):∀ v∈x.row,v.oneCell'=true:=by
 intro v hv
 simp only [TL.row,List.mem_cons,List.not_mem_nil,or_false] at hv
 rcases hv with rfl | rfl <;> rfl
theorem wInsR36:InsR Tryz.prog 36 68 2 TL.row:={
 fin:=fun l x g cap a v w b h1 h2 h3 h4 h5=>rows36.insEnd (fun _=>rfl) oneL l x g cap a v w b h1 h2 h3 h4 h5
 mid:=fun l x g cap a v w b h1 h2 h3 h4 h5 h6=>by
  by_cases hr:l.length+1≤cap
  ·exact rows36.insRoom (fun _=>rfl) oneL l x g cap a v w b h1 h2 h3 hr h5 h6
  ·exact rows36.insGrow (fun _=>rfl) oneL l x g cap a v w b h1 h2 h3 h4 (by omega) h5 h6 }
theorem wInsR31:InsR Tryz.prog 31 65 3 (Rw.r (k:=3)):={
 fin:=fun l x g cap a v w b h1 h2 h3 h4 h5=>rows31.insEnd (fun z=>z.len) (fun z=>z.one) l x g cap a v w b h1 h2 h3 h4 h5
 mid:=fun l x g cap a v w b h1 h2 h3 h4 h5 h6=>by
  by_cases hr:l.length+1≤cap
  ·exact rows31.insRoom (fun z=>z.len) (fun z=>z.one) l x g cap a v w b h1 h2 h3 hr h5 h6
  ·exact rows31.insGrow (fun z=>z.len) (fun z=>z.one) l x g cap a v w b h1 h2 h3 h4 (by omega) h5 h6 }
theorem hcmp80 (x y:List Int) (hx:okH x) (hy:okH y):M80 x y=some (cfH x y):=by
 obtain ⟨hx0,hx1,hx2⟩:=hx
 obtain ⟨hy0,hy1,hy2⟩:=hy
 cases x with
 | nil=>exact absurd rfl hx0
 | cons a x =>
  cases y with
  | nil=>exact absurd rfl hy0
  | cons b y =>
   simp only [hd0,List.headD_cons] at *
   have h1:idx (a :: x) 0=some a:=by simp [idx]
   have h2:idx (b :: y) 0=some b:=by simp [idx]
   have h3:i64 (a - b)=some (a - b):=by
    unfold i64
    rw [if_pos]
    omega
   rw [M80,h1,bind1_some,h2,bind1_some,h3,bind1_some]
   rfl
theorem wSortL79:SortLC Tryz.prog 79 :=
 ⟨fun enc h1 cf hO hT g cb blk off cap d w eg hc hH hb hs=>Tryz.slices_SortFunc_total enc h1 cf hO g cb blk off cap d w eg hc hH hb hs hT,fun p cap fv w=>Tryz.slices_SortFunc_none (α:=Nat) p cap fv w⟩
end Go.Proofs.YtlecphianicdhaaGreat
end
