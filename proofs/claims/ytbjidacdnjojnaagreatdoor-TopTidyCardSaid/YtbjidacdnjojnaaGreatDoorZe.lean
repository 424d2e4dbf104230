import Derived.Shelf.Strings.Repeat
import Derived.Ground.Names2Prog
import Derived.Test.YtbjidacdnjojnaaGreatDoorChecked
import Derived.Test.YtbjidacdnjojnaaGreatDoorZb
import Derived.Shelf.Sort.Plain
import Derived.Shelf.Slices.In.SortNone
import Derived.KernelRfl
section
namespace Go.Proofs
open Go.Shelf
def Tryz.lays105_ren:Go.Shelf.Ren:=⟨fun | 105=>35 | 212=>59 | 99=>60 | 165=>61 | 166=>62 | 170=>63 | 169=>64 | 263=>80 | 264=>81 | 206=>82 | 240=>83 | 241=>84 | 276=>107 | 277=>108 | n=>n,fun | 9=>9 | 3=>3 | 4=>4 | 20=>20 | 0=>0 | 46=>115 | 109=>126 | 5=>5 | 72=>132 | 76=>135 | 51=>153 | 146=>154 | 53=>114 | 148=>156 | 70=>129 | 37=>130 | 75=>134 | 127=>158 | 164=>182 | 80=>137 | n=>n,fun | n=>n⟩
theorem Tryz.lays105:Go.Proofs.Lays.n105 Tryz.prog Tryz.lays105_ren:={
 mixed:=by kernel_rfl
 f99:=Tryz.func60.trans (congrArg some (by kernel_rfl))
 f105:=Tryz.func35.trans (congrArg some (by kernel_rfl))
 f165:=Tryz.func61.trans (congrArg some (by kernel_rfl))
 f166:=Tryz.func62.trans (congrArg some (by kernel_rfl))
 f169:=Tryz.func64.trans (congrArg some (by kernel_rfl))
 f170:=Tryz.func63.trans (congrArg some (by kernel_rfl))
 f206:=Tryz.func82.trans (congrArg some (by kernel_rfl))
 f212:=Tryz.func59.trans (congrArg some (by kernel_rfl))
 f240:=Tryz.func83.trans (congrArg some (by kernel_rfl))
 f241:=Tryz.func84.trans (congrArg some (by kernel_rfl))
 f263:=Tryz.func80.trans (congrArg some (by kernel_rfl))
 f264:=Tryz.func81.trans (congrArg some (by kernel_rfl))
 f276:=Tryz.func107.trans (congrArg some (by kernel_rfl))
 f277:=Tryz.func108.trans (congrArg some (by kernel_rfl))
 t0:=Tryz.underlying0
 a0:=Tryz.isAgg0
 z0:=Tryz.sizeOf0
 v0:=Tryz.zeroValue0
 t3:=Tryz.underlying3
 a3:=Tryz.isAgg3
 z3:=Tryz.sizeOf3
 v3:=Tryz.zeroValue3
 t4:=Tryz.underlying4
 a4:=Tryz.isAgg4
 z4:=Tryz.sizeOf4
 v4:=Tryz.zeroValue4
 t5:=Tryz.underlying5
 a5:=Tryz.isAgg5
 z5:=Tryz.sizeOf5
 v5:=Tryz.zeroValue5
 t9:=Tryz.underlying9
 a9:=Tryz.isAgg9
 z9:=Tryz.sizeOf9
 v9:=Tryz.zeroValue9
 t20:=Tryz.underlying20
 a20:=Tryz.isAgg20
 z20:=Tryz.sizeOf20
 v20:=Tryz.zeroValue20
 t37:=Tryz.underlying130
 a37:=Tryz.isAgg130
 z37:=Tryz.sizeOf130
 v37:=Tryz.zeroValue130
 t46:=Tryz.underlying115
 a46:=Tryz.isAgg115
 z46:=Tryz.sizeOf115
 v46:=Tryz.zeroValue115
 t51:=Tryz.underlying153
 a51:=Tryz.isAgg153
 z51:=Tryz.sizeOf153
 v51:=Tryz.zeroValue153
 t53:=Tryz.underlying114
 a53:=Tryz.isAgg114
 z53:=Tryz.sizeOf114
 v53:=Tryz.zeroValue114
 t70:=Tryz.underlying129
 a70:=Tryz.isAgg129
 z70:=Tryz.sizeOf129
 v70:=Tryz.zeroValue129
 t72:=Tryz.underlying132
 a72:=Tryz.isAgg132
 z72:=Tryz.sizeOf132
 v72:=Tryz.zeroValue132
 t75:=Tryz.underlying134
 a75:=Tryz.isAgg134
 z75:=Tryz.sizeOf134
 v75:=Tryz.zeroValue134
 t76:=Tryz.underlying135
 a76:=Tryz.isAgg135
 z76:=Tryz.sizeOf135
 v76:=Tryz.zeroValue135
 t109:=Tryz.underlying126
 a109:=Tryz.isAgg126
 z109:=Tryz.sizeOf126
 v109:=Tryz.zeroValue126
 t127:=Tryz.underlying158
 a127:=Tryz.isAgg158
 z127:=Tryz.sizeOf158
 v127:=Tryz.zeroValue158
 t146:=Tryz.underlying154
 a146:=Tryz.isAgg154
 z146:=Tryz.sizeOf154
 v146:=Tryz.zeroValue154
 t148:=Tryz.underlying156
 a148:=Tryz.isAgg156
 z148:=Tryz.sizeOf156
 v148:=Tryz.zeroValue156
 t164:=Tryz.underlying182
 a164:=Tryz.isAgg182
 z164:=Tryz.sizeOf182
 v164:=Tryz.zeroValue182 }
theorem Tryz.Builder_Extra_105:Builder.Extra Tryz.prog Tryz.lays105_ren:={
 sizeBuilder:=by kernel_rfl
 liesBuilder:=by kernel_rfl
 t5:=Tryz.underlying5
 a5:=Tryz.isAgg5
 z5:=Tryz.sizeOf5
 v5:=Tryz.zeroValue5
 infoByte:=by kernel_rfl
 cellsByte:=by kernel_rfl
 sizeByte:=by kernel_rfl
 neB5:=by decide }
open Go.RowKit Go.Lib in
theorem Tryz.strings_Repeat (s:ByteArray) (c:Nat) (w:World) (hc:c≤9223372036854775807) (hlen:s.size*c≤140737488355328) :
  Calls Tryz.prog 35 #[.string s,.int .i64 c] w fun e w'=>e=.returned (.string ⟨(Lib.repeatL s.data.toList c).toArray⟩)∧Below w.heap.size w w':=Any.strings_Repeat Tryz.lays105 Tryz.Builder_Extra_105 s c w hc hlen
end Go.Proofs
namespace Go.Proofs.YtbjidacdnjojnaaGreatDoor
open Go.S
theorem qar (a0:List UInt8) (a1:Int) (w:World) (r:List UInt8) (h:xu a0 a1=some r):Does Tryz.prog 35 [st a0,.int .i64 a1] w fun u m=>u=st r∧m=[]:=by
 obtain ⟨h0,h1,h2,rfl⟩:=yr h
 obtain ⟨c,rfl⟩:=Int.eq_ofNat_of_zero_le h0
 refine Calls.mono (Tryz.strings_Repeat ⟨a0.toArray⟩ c w (by omega) (by rw [xx];simpa using h2)) ?_
 rintro e w' ⟨rfl,hb⟩
 exact ⟨_,[],rfl,⟨by simp [st],rfl⟩,Cls.of_below hb trivial⟩
end Go.Proofs.YtbjidacdnjojnaaGreatDoor
end
section
namespace Go.Proofs
open Go.Shelf
def Tryz.lays189_ren:Go.Shelf.Ren:=⟨fun | 189=>58 | 125=>79 | 257=>78 | 128=>105 | 129=>106 | 294=>96 | 295=>97 | 296=>98 | 297=>99 | 298=>100 | 299=>101 | 216=>102 | 300=>103 | 301=>104 | 328=>115 | 329=>116 | 330=>117 | 331=>118 | 332=>119 | 215=>120 | 343=>124 | n=>n,fun | 28=>86 | 3=>3 | 46=>115 | 0=>0 | 51=>153 | 53=>114 | 4=>4 | 183=>173 | 182=>172 | 131=>178 | 5=>5 | 9=>9 | 218=>191 | 222=>195 | 228=>198 | 229=>199 | n=>n,fun | n=>n⟩
theorem Tryz.lays189:Go.Proofs.Lays.n189 Tryz.prog Tryz.lays189_ren:={
 mixed:=by kernel_rfl
 f125:=Tryz.func79.trans (congrArg some (by kernel_rfl))
 f128:=Tryz.func105.trans (congrArg some (by kernel_rfl))
 f129:=Tryz.func106.trans (congrArg some (by kernel_rfl))
 f189:=Tryz.func58.trans (congrArg some (by kernel_rfl))
 f215:=Tryz.func120.trans (congrArg some (by kernel_rfl))
 f216:=Tryz.func102.trans (congrArg some (by kernel_rfl))
 f257:=Tryz.func78.trans (congrArg some (by kernel_rfl))
 f294:=Tryz.func96.trans (congrArg some (by kernel_rfl))
 f295:=Tryz.func97.trans (congrArg some (by kernel_rfl))
 f296:=Tryz.func98.trans (congrArg some (by kernel_rfl))
 f297:=Tryz.func99.trans (congrArg some (by kernel_rfl))
 f298:=Tryz.func100.trans (congrArg some (by kernel_rfl))
 f299:=Tryz.func101.trans (congrArg some (by kernel_rfl))
 f300:=Tryz.func103.trans (congrArg some (by kernel_rfl))
 f301:=Tryz.func104.trans (congrArg some (by kernel_rfl))
 f328:=Tryz.func115.trans (congrArg some (by kernel_rfl))
 f329:=Tryz.func116.trans (congrArg some (by kernel_rfl))
 f330:=Tryz.func117.trans (congrArg some (by kernel_rfl))
 f331:=Tryz.func118.trans (congrArg some (by kernel_rfl))
 f332:=Tryz.func119.trans (congrArg some (by kernel_rfl))
 f343:=Tryz.func124.trans (congrArg some (by kernel_rfl))
 t0:=Tryz.underlying0
 a0:=Tryz.isAgg0
 z0:=Tryz.sizeOf0
 v0:=Tryz.zeroValue0
 t3:=Tryz.underlying3
 a3:=Tryz.isAgg3
 z3:=Tryz.sizeOf3
 v3:=Tryz.zeroValue3
 t4:=Tryz.underlying4
 a4:=Tryz.isAgg4
 z4:=Tryz.sizeOf4
 v4:=Tryz.zeroValue4
 t5:=Tryz.underlying5
 a5:=Tryz.isAgg5
 z5:=Tryz.sizeOf5
 v5:=Tryz.zeroValue5
 t9:=Tryz.underlying9
 a9:=Tryz.isAgg9
 z9:=Tryz.sizeOf9
 v9:=Tryz.zeroValue9
 t28:=Tryz.underlying86
 a28:=Tryz.isAgg86
 z28:=Tryz.sizeOf86
 v28:=Tryz.zeroValue86
 t46:=Tryz.underlying115
 a46:=Tryz.isAgg115
 z46:=Tryz.sizeOf115
 v46:=Tryz.zeroValue115
 t51:=Tryz.underlying153
 a51:=Tryz.isAgg153
 z51:=Tryz.sizeOf153
 v51:=Tryz.zeroValue153
 t53:=Tryz.underlying114
 a53:=Tryz.isAgg114
 z53:=Tryz.sizeOf114
 v53:=Tryz.zeroValue114
 t131:=Tryz.underlying178
 a131:=Tryz.isAgg178
 z131:=Tryz.sizeOf178
 v131:=Tryz.zeroValue178
 t182:=Tryz.underlying172
 a182:=Tryz.isAgg172
 z182:=Tryz.sizeOf172
 v182:=Tryz.zeroValue172
 t183:=Tryz.underlying173
 a183:=Tryz.isAgg173
 z183:=Tryz.sizeOf173
 v183:=Tryz.zeroValue173
 t218:=Tryz.underlying191
 a218:=Tryz.isAgg191
 z218:=Tryz.sizeOf191
 v218:=Tryz.zeroValue191
 t222:=Tryz.underlying195
 a222:=Tryz.isAgg195
 z222:=Tryz.sizeOf195
 v222:=Tryz.zeroValue195
 t228:=Tryz.underlying198
 a228:=Tryz.isAgg198
 z228:=Tryz.sizeOf198
 v228:=Tryz.zeroValue198
 t229:=Tryz.underlying199
 a229:=Tryz.isAgg199
 z229:=Tryz.sizeOf199
 v229:=Tryz.zeroValue199 }
open Go.Sort Go.RowKit in
theorem Tryz.slices_Sort_int (blk off cap:Nat) (zs:List Int) (w:World) (hH:Holds (Value.int .i64) w blk off zs.toArray) (hblk:blk < w.heap.size) (hsz:zs.length < 4611686018427387904) :
  Calls Tryz.prog 58 #[.slice (some ⟨blk,off,none⟩) zs.length cap] w fun e w' =>
   e=.returned (.tuple #[])∧∃ n os,w'=grow (putRow (Value.int .i64) (Sort.ahead w n) blk off (zs.mergeSort fun x y=>decide (x≤y)).toArray) os:=Any.slices_Sort_int Tryz.lays189 blk off cap zs w hH hblk hsz
open Go.RowKit Go.Sort in
theorem Tryz.slices_Sort_int_none (p:Option Addr) (cap:Nat) (w:World) :
  Calls Tryz.prog 58 #[.slice p 0 cap] w fun e w'=>e=.returned (.tuple #[])∧w'=w:=Any.slices_Sort_int_none Tryz.lays189 p cap w
end Go.Proofs
namespace Go.Proofs.YtbjidacdnjojnaaGreatDoor
open Go.S
theorem qjz:qh1 Tryz.prog 58:=⟨Tryz.slices_Sort_int,Tryz.slices_Sort_int_none⟩
end Go.Proofs.YtbjidacdnjojnaaGreatDoor
end
section
namespace Go.S
set_option linter.unusedVariables false
def yF (fs:Fr):Op→Option Value
 | .move x=>val fs x
 | .assign x=>val fs x
 | .extract x i=>match val fs x with
  | some (.tuple vs)=>vs.toList[i]?
  | _=>none
 | .pick c x y=>match val fs c with
  | some (.bool true)=>val fs x
  | some (.bool false)=>val fs y
  | _=>none
 | .nilCheck x=>match val fs x with
  | some (.pointer (some a))=>some (.pointer (some a))
  | _=>none
 | _=>none
def qat (ops:Array Oper) (n:Nat) (fs:Fr) (o:Oper):Option Fr:=match o.dst with
 | some d=>match Nat.blt d n with
  | true=>match vm ops fs o.guard with
   | true=>some ((d,undef) :: fs)
   | false=>match xM ops fs o.guard with
    | true=>match yF fs o.op with
     | some v=>some ((d,v) :: fs)
     | none=>none
    | false=>none
  | false=>none
 | none=>match vm ops fs o.guard with
  | true=>some fs
  | false=>none
def qiz (ops:Array Oper) (n:Nat):Nat→List Oper→Fr→Option (List Oper×Fr)
 | 0,l,fs=>some (l,fs)
 | k+1,o :: l,fs=>match qat ops n fs o with
  | some fs'=>qiz ops n k l fs'
  | none=>none
 | _+1,[],_=>none
section
variable {P:Program} {Q:Exit→Act→World→Prop} {n:Nat} {C D:World→Prop} {fs fs':Fr} {t:TypeId} {ops:Array Oper} {l l' rest:List Oper} {d:Nat} {pos:String} {af:Array Edge} {op:Op} {v:Value} {x y c:Operand} {j k i:Nat} {b:Bool} {o:Oper} {listed:Array Bool} {bss:List (List Nat)} {Bs:List (World→Prop)} {S:Array Bool→World→Prop} {Z:World→Prop}
theorem ws (h:yF fs op=some v):Y P op t n fs C v:=by
 unfold yF at h
 split at h
 ·exact Y.move h
 ·exact Y.assign h
 ·split at h
  ·rename_i x i vs hx
   exact Y.extract (vs:=vs.toList) (by simpa using hx) h
  ·cases h
 ·split at h
  ·rename_i hc;exact Y.pickT hc h
  ·rename_i hc;exact Y.pickF hc h
  ·cases h
 ·split at h
  ·rename_i hx
   cases h
   exact Y.nilCheck hx
  ·cases h
 ·cases h
inductive qf4 (ops:Array Oper) (n:Nat) (fs:Fr) (o:Oper):Fr→Prop
 | pass {e:Nat} (h1:o.dst=some e) (h2:Nat.blt e n=true) (h3:vm ops fs o.guard=true):qf4 ops n fs o ((e,undef) :: fs)
 | want {e:Nat} {u:Value} (h1:o.dst=some e) (h2:Nat.blt e n=true) (h3:xM ops fs o.guard=true) (h4:yF fs o.op=some u):qf4 ops n fs o ((e,u) :: fs)
 | none (h1:o.dst=none) (h3:vm ops fs o.guard=true):qf4 ops n fs o fs
theorem jB (h:qat ops n fs o=some fs'):qf4 ops n fs o fs':=by
 unfold qat at h
 split at h
 ·rename_i d hd
  split at h
  ·rename_i hb
   split at h
   ·rename_i hp
    cases h
    exact .pass hd hb hp
   ·split at h
    ·rename_i hw
     split at h
     ·rename_i v hv
      cases h
      exact .want hd hb hw hv
     ·cases h
    ·cases h
  ·cases h
 ·rename_i hd
  split at h
  ·rename_i hp
   cases h
   exact .none hd hp
  ·cases h
theorem L.step1 (h:qat ops n fs o=some fs') (next:L P ops Q n C rest fs'):L P ops Q n C (o :: rest) fs:=by
 have h':=jB h
 obtain ⟨dst,op,t,pos,af,g⟩:=o
 intro a w hs hc
 cases h' with
 | pass h1 h2 h3 =>
  simp only at h1 h3
  subst h1
  simp only [wpList,zA hs _ h3,Bool.false_eq_true,if_false]
  exact next _ w (hs.put h2 _) hc
 | want h1 h2 h3 h4 =>
  simp only at h1 h3 h4
  subst h1
  simp only [wpList,z2 hs _ h3,if_true]
  exact .inl ((ws h4:Y P op t n fs C _).wp _ pos af g hs hc fun w' hc'=>next _ w' (hs.put h2 _) hc')
 | none h1 h3 =>
  simp only at h1 h3
  subst h1
  simp only [wpList,zA hs _ h3,Bool.false_eq_true,if_false]
  exact next a w hs hc
theorem U.step1 (h:qat ops n fs o=some fs') (next:U P ops Q n C rest fs'):U P ops Q n C (o :: rest) fs:=by
 have h':=jB h
 obtain ⟨dst,op,t,pos,af,g⟩:=o
 intro a hs
 cases h' with
 | pass h1 h2 h3 =>
  simp only at h1 h3
  subst h1
  simp only [wpQuiet,zA hs _ h3,Bool.false_eq_true,if_false]
  exact next _ (hs.put h2 _)
 | want h1 h2 h3 h4 =>
  simp only at h1 h3 h4
  subst h1
  simp only [wpQuiet,z2 hs _ h3,if_true]
  exact ⟨_,fun w hc=>(ws h4:Y P op t n fs C _) _ _ _ _ a w hs hc,next _ (hs.put h2 _)⟩
 | none h1 h3 =>
  simp only at h1 h3
  subst h1
  simp only [wpQuiet,zA hs _ h3,Bool.false_eq_true,if_false]
  exact next a hs
theorem L.r:∀ (k:Nat) {l:List Oper} {fs:Fr} (h:qiz ops n k l fs=some (l',fs')) (next:L P ops Q n C l' fs'),L P ops Q n C l fs
 | 0,l,fs,h,next=>by cases h;exact next
 | k+1,[],fs,h,next=>by cases h
 | k+1,o :: l,fs,h,next=>by
  unfold qiz at h
  split at h
  ·rename_i fs1 h1
   exact L.step1 h1 (L.r k h next)
  ·cases h
theorem U.r:∀ (k:Nat) {l:List Oper} {fs:Fr} (h:qiz ops n k l fs=some (l',fs')) (next:U P ops Q n C l' fs'),U P ops Q n C l fs
 | 0,l,fs,h,next=>by cases h;exact next
 | k+1,[],fs,h,next=>by cases h
 | k+1,o :: l,fs,h,next=>by
  unfold qiz at h
  split at h
  ·rename_i fs1 h1
   exact U.step1 h1 (U.r k h next)
  ·cases h
def okV (ops:Array Oper) (bss:List (List Nat)):Array Bool→List Nat→Bool
 | _,[]=>true
 | listed,i :: r=>qjn ops bss [] listed i && okV ops bss (listed.setIfInBounds i true) r
def qiL (listed:Array Bool):List Nat→Array Bool
 | []=>listed
 | i :: r=>qiL (listed.setIfInBounds i true) r
def qjF (ops:Array Oper) (n:Nat):List Nat→Fr→Option Fr
 | [],fs=>some fs
 | i :: r,fs=>match ops[i]? with
  | some o=>match qat ops n fs o with
   | some fs'=>qjF ops n r fs'
   | none=>none
  | none=>none
theorem V2.step1 (hn:Nx2 ops S Z listed i o) (h:qat ops n fs o=some fs') (next:V2 P ops Q n S (listed.setIfInBounds i true) k C fs'):V2 P ops Q n S listed (k+1) C fs:=by
 have h':=jB h
 obtain ⟨dst,op,t,pos,af,g⟩:=o
 cases h' with
 | pass h1 h2 h3 =>
  simp only at h1 h3
  subst h1
  exact V2.pass hn h3 h2 next
 | want h1 h2 h3 h4 =>
  simp only at h1 h3 h4
  subst h1
  by_cases hp:zR op=true
  ·exact V2.y hn h3 hp h2 (ws h4) next
  ·unfold yF at h4
   split at h4
   ·exact absurd rfl hp
   ·exact absurd rfl hp
   ·exact absurd rfl hp
   ·exact absurd rfl hp
   ·split at h4
    ·rename_i hx
     cases h4
     exact V2.nilc hn h3 h2 hx next
    ·cases h4
   ·cases h4
 | none h1 h3 =>
  simp only at h1 h3
  subst h1
  exact V2.passNone hn h3 next
theorem V2.r:∀ (is:List Nat) {listed:Array Bool} {fs:Fr} {k:Nat} (h:okV ops bss listed is=true) (h2:qjF ops n is fs=some fs') (next:V2 P ops Q n (stC bss Bs D) (qiL listed is) k C fs'),V2 P ops Q n (stC bss Bs D) listed (k+is.length) C fs
 | [],listed,fs,k,h,h2,next=>by cases h2;exact next
 | i :: r,listed,fs,k,h,h2,next=>by
  simp only [okV,Bool.and_eq_true] at h
  unfold qjF at h2
  split at h2
  ·rename_i o ho
   split at h2
   ·rename_i fs1 h3
    exact V2.step1 (Z:=fun _=>True) (Nx2.of [] h.1 ho fun _ _ _ _=>trivial) h3 (V2.r r h.2 h2 next)
   ·cases h2
  ·cases h2
end
theorem hI {D:World→Prop}:∀ w,D w→D w:=fun _ h=>h
section
variable {P:Program} {Q:Exit→Act→World→Prop} {n:Nat} {C D Z:World→Prop} {fs fs':Fr} {t:TypeId} {ops:Array Oper} {l l' rest:List Oper} {d id:Nat} {pos:String} {af:Array Edge} {op:Op} {v u:Value} {x y c:Operand} {k i:Nat} {g:Option (Nat×Bool)} {listed:Array Bool} {bss:List (List Nat)} {Bs:List (World→Prop)}
variable {w0 w:World} {own:List Nat} {m m':List As} {α ρ:Type} {r:ρ} {b off:Nat} {cs:List Value} {e te:TypeId} {cd:Code}
theorem Cls.s (h:Cls w0 own m w) (is:List Nat) (hn:is.Nodup:=by decide) (hm:is.map (m[·]?)=m'.map some:=by exact rfl):Cls w0 own m' w:=h.sel is hn hm
theorem V2.q (i:Nat) (bz:List Nat) (hz:∀ (L:Array Bool) w,qT bz L=true→stC bss Bs D L w→Z w) (ho:ops[i]?=some ⟨some d,op,t,pos,af,g⟩) (hg:xM ops fs g=true) (hy:Y P op t n fs Z v)
  (next:V2 P ops Q n (stC bss Bs D) (listed.setIfInBounds i true) k C ((d,v) :: fs)) (h:qjn ops bss bz listed i=true:=by kernel_rfl) (hp:zR op=true:=by exact rfl) (hd:Nat.blt d n=true:=by exact rfl):V2 P ops Q n (stC bss Bs D) listed (k+1) C fs:=V2.y (Nx2.of bz h ho hz) hg hp hd hy next
theorem nsr {yy:Code} {K:Exit→Act→World→Prop} (h:L P l.toArray (Exit.then (yy.wp P K) K) n C l fs):L P ops (Exit.then ((Code.seq (.region id l.toArray false) yy).wp P K) K) n C [] fs:=L.nil (E.thenN (W.seq (W.region h)))
theorem nr {K:Exit→Act→World→Prop} (h:L P l.toArray K n C l fs):L P ops (Exit.then ((Code.region id l.toArray false).wp P K) K) n C [] fs:=L.nil (E.thenN (W.region h))
theorem sr {yy:Code} (h:L P l.toArray (Exit.then (yy.wp P Q) Q) n C l fs):W P Q n C (.seq (.region id l.toArray false) yy) fs:=W.seq (W.region h)
theorem ln {K:Exit→Act→World→Prop} (h:W P K n C cd fs):L P ops (Exit.then (cd.wp P K) K) n C [] fs:=L.nil (E.thenN h)
theorem E.jJ {J:Fr→(World→Prop)→Prop} {gs:Fr} {D:World→Prop} (h:J gs D) (hD:∀ w,C w→D w) (hF:Sub gs fs:=by (repeat refine ⟨rfl,?_⟩);trivial):E .normal (KS Q n J) n C fs:=E.joinJ h hF hD
theorem E.aJ {J:Nat→Fr→(World→Prop)→Prop} {m m':Nat} {gs:Fr} {D:World→Prop} (h:J m' gs D) (hD:∀ w,C w→D w) (hm:m' < m:=by exact Nat.lt_succ_self _) (hF:Sub gs fs:=by (repeat refine ⟨rfl,?_⟩);trivial):E .normal (KL Q n J m) n C fs:=E.againJ h hm hF hD
theorem nb {a b:Nat} (h:Nat.ble a b=true:=by exact rfl):a≤b:=Nat.le_of_ble_eq_true h
theorem sI (is:List Nat) (hn:is.Nodup:=by decide) (hm:is.map (m[·]?)=m'.map some:=by exact rfl):∀ w,Cls w0 own m w→Cls w0 own m' w:=fun _ hw=>hw.sel is hn hm
end
end Go.S
end
