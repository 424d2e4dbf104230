import Derived.Test.YtdlemoeinjihkaaGreatDoorTqM
import Derived.Test.YtdlemoeinjihkaaGreatDoorZa
import Derived.Test.YtdlemoeinjihkaaGreatDoorZf
import Derived.Test.YtdlemoeinjihkaaGreatDoorZb
set_option linter.unusedVariables false
set_option linter.unusedSimpArgs false
section
namespace Go.Proofs.YtdlemoeinjihkaaGreatDoor
open Go.S
structure Rc where
 id:Int
 from_:Int
 reads:List Int
 writes:List Int
 text:Int→List UInt8
 told:List TGot
def Skp (H:List Rc) (i j:Nat):Prop:=i≠j∧∃ x y,H[i]?=some x∧H[j]?=some y∧y.from_ < (i:Int)+1∧x.from_ < (j:Int)+1∧∃ k,k∈x.reads∧k∈y.writes
structure Hok (H:List Rc):Prop where
 fr:∀ (i:Nat) (x:Rc),H[i]?=some x→0≤x.from_∧x.from_≤i
 piv:∀ i j k,Skp H i j→Skp H j k→False
 ww:∀ (i j:Nat) (x y:Rc) (k:Int),i < j→H[i]?=some x→H[j]?=some y→k∈x.writes→k∈y.writes→(i:Int)+1≤y.from_
def Edg (H:List Rc) (i j:Nat):Prop:=i≠j∧∃ x y,H[i]?=some x∧H[j]?=some y∧((i:Int)+1≤y.from_∨(x.from_ < (j:Int)+1∧∃ k,k∈x.reads∧k∈y.writes))
theorem qmE (U:Nat→Prop):∀ n,(∃ i,i < n∧U i)→∃ j,U j∧∀ i,U i→j≤i
 | 0,⟨i,h,_⟩=>absurd h (Nat.not_lt_zero _)
 | n+1,⟨i,h,hu⟩=>by
  by_cases c:∃ i,i < n∧U i
  ·exact qmE U n c
  ·refine ⟨i,hu,fun q hq=>?_⟩
   rcases Nat.lt_or_ge q i with h1 | h1
   ·exact absurd ⟨q,by omega,hq⟩ c
   ·exact h1
theorem free {H:List Rc} (h:Hok H) (U:Nat→Prop) (hn:∃ i,U i):∃ j,U j∧∀ i,U i→¬Edg H i j:=by
 obtain ⟨i0,h0⟩:=hn
 obtain ⟨c,hc,hmin⟩:=qmE U (i0+1) ⟨i0,by omega,h0⟩
 by_cases hall:∃ j,U j∧∀ i,U i→¬Edg H i j
 ·exact hall
 ·exfalso
  have pred:∀ j,U j→∃ i,U i∧Edg H i j:=fun j hj=>by
   refine Classical.byContradiction fun hne=>hall ⟨j,hj,fun i hi he=>hne ⟨i,hi,he⟩⟩
  obtain ⟨b,hb,hbc,x,y,hx,hy,he⟩:=pred c hc
  have hcb:=hmin b hb
  have hyf:=h.fr c y hy
  have e1:x.from_ < (c:Int)+1∧∃ k,k∈x.reads∧k∈y.writes:=by
   rcases he with he | he
   ·omega
   ·exact he
  have s1:Skp H b c:=⟨hbc,x,y,hx,hy,by omega,e1.1,e1.2⟩
  obtain ⟨a,ha,hab,u,v,hu,hv,he2⟩:=pred b hb
  rw [hx] at hv
  obtain rfl:=Option.some.inj hv
  have hca:=hmin a ha
  have e2:u.from_ < (b:Int)+1∧∃ k,k∈u.reads∧k∈x.writes:=by
   rcases he2 with he2 | he2
   ·have:=e1.1;omega
   ·exact he2
  exact h.piv a b c ⟨hab,u,x,hu,hx,by have:=e1.1;omega,e2.1,e2.2⟩ s1
theorem qE {H:List Rc} {z:Rc} {i:Nat} {x:Rc} (h:(H++[z])[i]?=some x):(i < H.length∧H[i]?=some x)∨(i=H.length∧x=z):=by
 rcases Nat.lt_trichotomy i H.length with h1 | h1 | h1
 ·rw [List.getElem?_append_left h1] at h;exact .inl ⟨h1,h⟩
 ·subst h1;simp at h;exact .inr ⟨rfl,h.symm⟩
 ·rw [List.getElem?_eq_none (by simp;omega)] at h;cases h
theorem Hok.snoc {H:List Rc} (h:Hok H) {z:Rc} (hf:0≤z.from_∧z.from_≤H.length)
  (hw:∀ (j:Nat) (y:Rc) (k:Int),H[j]?=some y→z.from_ < (j:Int)+1→k∈y.writes→k∈z.writes→False)
  (ha:∀ (j:Nat) (y:Rc) (k:Int),H[j]?=some y→z.from_ < (j:Int)+1→k∈z.reads→k∈y.writes→(∀ q,¬Skp H j q)∧(∀ r,r∈y.reads→r ∉ z.writes))
  (hb:∀ (j:Nat) (y:Rc) (k:Int),H[j]?=some y→z.from_ < (j:Int)+1→k∈y.reads→k∈z.writes→(∀ q,¬Skp H q j))
  (hab:∀ (j:Nat) (y:Rc) (k:Int) (j':Nat) (y':Rc) (k':Int),H[j]?=some y→z.from_ < (j:Int)+1→k∈z.reads→k∈y.writes→H[j']?=some y'→z.from_ < (j':Int)+1→k'∈y'.reads→k'∈z.writes→False):Hok (H++[z]):=by
 have old:∀ i j,Skp (H++[z]) i j→i < H.length→j < H.length→Skp H i j:=by
  rintro i j ⟨h1,x,y,hx,hy,h2⟩ hi hj
  rw [List.getElem?_append_left hi] at hx
  rw [List.getElem?_append_left hj] at hy
  exact ⟨h1,x,y,hx,hy,h2⟩
 have lt:∀ {i j:Nat},Skp (H++[z]) i j→i≤H.length∧j≤H.length:=by
  rintro i j ⟨h1,x,y,hx,hy,h2⟩
  constructor
  ·rcases qE hx with q | q <;> omega
  ·rcases qE hy with q | q <;> omega
 have fromZ:∀ j,Skp (H++[z]) H.length j→∃ y k,H[j]?=some y∧z.from_ < (j:Int)+1∧k∈z.reads∧k∈y.writes:=by
  rintro j ⟨h1,x,y,hx,hy,h2,h3,k,h4,h5⟩
  rcases qE hx with ⟨q,_⟩ | ⟨_,rfl⟩
  ·omega
  ·rcases qE hy with ⟨_,q⟩ | ⟨q,_⟩
   ·exact ⟨y,k,q,h3,h4,h5⟩
   ·exact absurd q.symm h1
 have toZ:∀ i,Skp (H++[z]) i H.length→∃ y k,H[i]?=some y∧z.from_ < (i:Int)+1∧k∈y.reads∧k∈z.writes:=by
  rintro i ⟨h1,x,y,hx,hy,h2,h3,k,h4,h5⟩
  rcases qE hy with ⟨q,_⟩ | ⟨_,rfl⟩
  ·omega
  ·rcases qE hx with ⟨_,q⟩ | ⟨q,_⟩
   ·exact ⟨x,k,q,h2,h4,h5⟩
   ·exact absurd q h1
 refine ⟨fun i x hx=>?_,fun i j k h1 h2=>?_,fun i j x y k hij hx hy hkx hky=>?_⟩
 ·rcases qE hx with ⟨_,q⟩ | ⟨rfl,rfl⟩
  ·exact h.fr i x q
  ·exact hf
 ·obtain ⟨l1,l2⟩:=lt h1
  obtain ⟨_,l3⟩:=lt h2
  by_cases cj:j=H.length
  ·subst cj
   obtain ⟨y,q,e1,e2,e3,e4⟩:=toZ i h1
   obtain ⟨y',q',e1',e2',e3',e4'⟩:=fromZ k h2
   exact hab k y' q' i y q e1' e2' e3' e4' e1 e2 e3 e4
  ·have hj:j < H.length:=by omega
   by_cases ci:i=H.length
   ·subst ci
    obtain ⟨y,q,e1,e2,e3,e4⟩:=fromZ j h1
    obtain ⟨p1,p2⟩:=ha j y q e1 e2 e3 e4
    by_cases ck:k=H.length
    ·subst ck
     obtain ⟨y',q',e1',e2',e3',e4'⟩:=toZ j h2
     rw [e1] at e1'
     obtain rfl:=Option.some.inj e1'
     exact p2 q' e3' e4'
    ·exact p1 k (old j k h2 hj (by omega))
   ·have hi:i < H.length:=by omega
    by_cases ck:k=H.length
    ·subst ck
     obtain ⟨y',q',e1',e2',e3',e4'⟩:=toZ j h2
     exact hb j y' q' e1' e2' e3' e4' i (old i j h1 hi hj)
    ·exact h.piv i j k (old i j h1 hi hj) (old j k h2 hj (by omega))
 ·rcases qE hx with ⟨hi,q⟩ | ⟨q,_⟩
  ·rcases qE hy with ⟨_,q'⟩ | ⟨q',rfl⟩
   ·exact h.ww i j x y k hij q q' hkx hky
   ·by_cases c:y.from_ < (i:Int)+1
    ·exact (hw i x k q c hkx hky).elim
    ·omega
  ·rcases qE hy with ⟨q',_⟩ | ⟨q',_⟩ <;> omega
theorem Skp.snoc {H:List Rc} {z:Rc} {i j:Nat} (h:Skp (H++[z]) i j):Skp H i j∨(i=H.length∧∃ y k,H[j]?=some y∧z.from_ < (j:Int)+1∧k∈z.reads∧k∈y.writes)∨(j=H.length∧∃ y k,H[i]?=some y∧z.from_ < (i:Int)+1∧k∈y.reads∧k∈z.writes):=by
 obtain ⟨h1,x,y,hx,hy,h2,h3,k,h4,h5⟩:=h
 rcases qE hx with ⟨_,qx⟩ | ⟨qx,rfl⟩ <;> rcases qE hy with ⟨_,qy⟩ | ⟨qy,rfl⟩
 ·exact .inl ⟨h1,x,y,qx,qy,h2,h3,k,h4,h5⟩
 ·exact .inr (.inr ⟨qy,x,k,qx,h2,h4,h5⟩)
 ·exact .inr (.inl ⟨qx,y,k,qy,h3,h4,h5⟩)
 ·omega
def zQ (H:List Rc) (q:Int):Nat→Option Nat
 | 0=>none
 | s+1=>match H[s]? with
  | some x=>if q∈x.writes then some s else zQ H q s
  | none=>zQ H q s
theorem zk {H:List Rc} {q:Int}:∀ {s j:Nat},zQ H q s=some j→j < s∧(∃ x,H[j]?=some x∧q∈x.writes)∧∀ (i:Nat) (x:Rc),j < i→i < s→H[i]?=some x→q ∉ x.writes
 | 0,j,h=>by cases h
 | s+1,j,h=>by
  unfold zQ at h
  split at h
  ·rename_i x hx
   split at h
   ·rename_i hq
    cases h
    exact ⟨by omega,⟨x,hx,hq⟩,fun i x h1 h2=>by omega⟩
   ·rename_i hq
    obtain ⟨h1,h2,h3⟩:=zk h
    refine ⟨by omega,h2,fun i y h4 h5 hy=>?_⟩
    by_cases c:i=s
    ·subst c;rw [hx] at hy;cases hy;exact hq
    ·exact h3 i y h4 (by omega) hy
  ·rename_i hx
   obtain ⟨h1,h2,h3⟩:=zk h
   refine ⟨by omega,h2,fun i y h4 h5 hy=>?_⟩
   by_cases c:i=s
   ·subst c;rw [hx] at hy;cases hy
   ·exact h3 i y h4 (by omega) hy
theorem kp {H:List Rc} {q:Int}:∀ {s:Nat},zQ H q s=none→∀ (i:Nat) (x:Rc),i < s→H[i]?=some x→q ∉ x.writes
 | 0,_,i,x,h,_=>absurd h (Nat.not_lt_zero _)
 | s+1,h,i,x,hi,hx=>by
  unfold zQ at h
  split at h
  ·rename_i y hy
   split at h
   ·cases h
   ·rename_i hq
    by_cases c:i=s
    ·subst c;rw [hy] at hx;cases hx;exact hq
    ·exact kp h i x (by omega) hx
  ·rename_i hy
   by_cases c:i=s
   ·subst c;rw [hy] at hx;cases hx
   ·exact kp h i x (by omega) hx
theorem ja {H:List Rc} {z:Rc} {q:Int}:∀ {s:Nat},s≤H.length→zQ (H++[z]) q s=zQ H q s
 | 0,_=>rfl
 | s+1,h=>by
  unfold zQ
  rw [List.getElem?_append_left (by omega),ja (by omega)]
def kR (H:List Rc) (q:Int) (s:Nat):List UInt8:=match zQ H q s with
 | some j=>match H[j]? with
  | some x=>x.text q
  | none=>[]
 | none=>[]
theorem qeo {H:List Rc} {z:Rc} {q:Int} {s:Nat} (h:s≤H.length):kR (H++[z]) q s=kR H q s:=by
 unfold kR
 rw [ja h]
 cases hl:zQ H q s with
 | none=>rfl
 | some j =>
  have:=(zk hl).1
  simp only
  rw [List.getElem?_append_left (by omega)]
theorem qfy {H:List Rc} {z:Rc} {q:Int}:kR (H++[z]) q (H.length+1)=if q∈z.writes then z.text q else kR H q H.length:=by
 have h:(H++[z])[H.length]?=some z:=by simp
 by_cases c:q∈z.writes
 ·rw [if_pos c]
  unfold kR zQ
  simp [c]
 ·rw [if_neg c]
  have e:zQ (H++[z]) q (H.length+1)=zQ H q H.length:=by
   rw [zQ,h]
   simp only [c,if_false]
   exact ja (Nat.le_refl _)
  unfold kR
  rw [e]
  cases hl:zQ H q H.length with
  | none=>rfl
  | some j =>
   have:=(zk hl).1
   simp only
   rw [List.getElem?_append_left (by omega)]
end Go.Proofs.YtdlemoeinjihkaaGreatDoor
end
section
namespace Go.Proofs.YtdlemoeinjihkaaGreatDoor
open Go.S
abbrev SS:=List (List UInt8)
def I64 (k:Int):Prop:=-9223372036854775808≤k∧k≤9223372036854775807
structure Got (s:List UInt8) (n k e:Int):Prop where
 n0:0≤n
 n1:n < 18446744073709551616
 k0:0≤k
 k1:k≤s.length
def enc:Nat→Nat→List UInt8
 | 0,_=>[]
 | f+1,x=>if x < 128 then [UInt8.ofNat x] else UInt8.ofNat (x % 128+128) :: enc f (x / 128)
theorem qce:∀ (f x:Nat),(enc f x).length≤f
 | 0,_=>by simp [enc]
 | f+1,x=>by
  simp only [enc]
  split
  ·simp
  ·have:=qce f (x / 128);simp;omega
theorem qc5:∀ (f j x:Nat),x < 128 ^ (j+1)→(enc f x).length≤j+1
 | 0,_,_,_=>by simp [enc]
 | f+1,0,x,h=>by
  simp only [enc]
  rw [if_pos (by simpa using h)];simp
 | f+1,j+1,x,h=>by
  simp only [enc]
  split
  ·simp
  ·have:=qc5 f j (x / 128) (by rw [Nat.pow_succ] at h;omega);simp;omega
theorem qcd (f x:Nat):0 < (enc (f+1) x).length:=by
 simp only [enc]
 split <;> simp
theorem jm (a b:List Int):zf (a++b)=zf a++zf b:=by simp [zf]
theorem vW (x:Nat):zf [(x:Int)]=[UInt8.ofNat x]:=by simp [zf]
theorem qel (x:Nat) (h:x < 256):IntKind.wrap .u8 (x:Int)=(x:Int):=by rw [qjz];omega
theorem qfW:∀ (f x:Nat),x < 128 ^ (f+1)→x < 18446744073709551616→∀ n,f < n→∀ (l:List Int),l.length+f≤1000→kP n (x:Int) l=some (zf l++enc (f+1) x)
 | f,x,hx,h64,n+1,hn,l,hl=>by
  simp only [kP,qco,qdZ,enc]
  by_cases h:x < 128
  ·rw [if_neg (by omega),if_pos h,qH (by simp;omega),qa,qel _ (by omega),jm,vW]
  ·rw [if_pos (by omega),if_neg h,qjz,show (x:Int) % 256=((x % 256:Nat):Int) by omega,show (128:Int)=((128:Nat):Int) by rfl,vX .u8 rfl _ _ (by simp [IntKind.bits];omega) (by decide),qof _ (Nat.mod_lt _ (by decide)),qH (by simp;omega),qa]
   rw [show (7:Int)=((7:Nat):Int) by rfl,qcF _ _ (by decide),qa]
   have h7:(2:Nat) ^ 7=128:=by decide
   match f,hx,hn,hl with
   | 0,hx,_,_=>simp at hx;omega
   | f+1,hx,hn,hl =>
    rw [h7,qfW f (x / 128) (by rw [Nat.pow_succ] at hx;omega) (by omega) n (by omega) _ (by simp;omega),jm,vW]
    simp [show x % 256 % 128=x % 128 by omega]
theorem qjK (x:Nat) (h:x < 18446744073709551616):qlI (x:Int)=some (enc 10 x):=by
 have:=qfW 9 x (by simp;omega) h big (by rw [qP];omega) [] (by simp)
 simpa [qlI,zf] using this
def pI (k:Int):List UInt8:=enc 10 (2*k.toNat)
theorem qf4 (k:Int):(pI k).length≤10:=qce _ _
theorem qms (k:Int):0 < (pI k).length:=qcd 9 _
theorem qf3 {k:Int} (h:k≤1048575):(pI k).length≤3:=qc5 10 2 _ (by simp;omega)
theorem qkJ {k:Int} (h:k < 64):(pI k).length≤1:=qc5 10 0 _ (by simp;omega)
theorem qfX {k:Int} (h0:0≤k) (h1:k < 4611686018427387904):M89 k=some (pI k):=by
 obtain ⟨j,rfl⟩:=Int.eq_ofNat_of_zero_le h0
 have e1:IntKind.wrap .u64 ((j:Nat):Int)=((j:Nat):Int):=by rw [qbA];omega
 rw [M89,e1,show (1:Int)=((1:Nat):Int) by rfl,qim _ _ (by decide) (by omega),qa,if_neg (by omega),qjK _ (by omega),qa,pI]
 congr 2
 simp;omega
def pT (s:List UInt8):List UInt8:=enc 10 s.length++s
theorem qcL {s:List UInt8} (h:s.length < 16384):(pT s).length≤s.length+2:=by
 have hlen:=qc5 10 1 s.length (by simpa using h)
 unfold pT
 rw [List.length_append];omega
theorem qfV {s:List UInt8} (h:s.length≤4096):M88 s=some (pT s,0):=by
 have hw:IntKind.wrap .u64 (s.length:Int)=(s.length:Int):=by rw [qbA];omega
 have hlen:=qce 10 s.length
 simp only [M88]
 rw [if_neg (by omega),hw,qjK _ (by omega),qa,xR (by omega),qa];rfl
end Go.Proofs.YtdlemoeinjihkaaGreatDoor
end
section
namespace Go.Proofs.YtdlemoeinjihkaaGreatDoor
open Go.S
theorem qkB (s:List UInt8) (hs:s.length≤4294967296) (n:Nat):∀ (r i x y:Nat),i+r=s.length→x < 65521→y < 65521→r < n→∃ S:Nat,S < 4294967296∧kO s n (x:Int) (y:Int) (i:Int)=some (S:Int):=by
 induction n with
 | zero=>intro r i x y hi hx hy hn;omega
 | succ n ih =>
  intro r i x y hi hx hy hn
  simp only [kO,qcn,qdW]
  cases r with
  | zero =>
   rw [if_neg (by omega),show (16:Int)=((16:Nat):Int) by rfl,qin _ _ (by decide) (by omega),qa,vX .u32 rfl _ _ (by rw [p32];omega) (by rw [p32];omega)]
   refine ⟨_,?_,rfl⟩
   exact Nat.or_lt_two_pow (n:=32) (by omega) (by omega)
  | succ r =>
   have hil:i < s.length:=by omega
   have hb:s[i]?=some s[i]:=List.getElem?_eq_getElem hil
   generalize s[i]=b at hb
   have hbl:b.toNat < 256:=b.toNat_lt
   rw [if_pos (by omega),qiJ hb,qa,qbB,qbB,show ((x:Int)+((b.toNat:Nat):Int) % 4294967296) % 4294967296=((x+b.toNat:Nat):Int) by omega,show (65521:Int)=((65521:Nat):Int) by rfl,qcO _ _ (by decide),qa,qbB]
   rw [show ((y:Int)+(((x+b.toNat) % 65521:Nat):Int)) % 4294967296=((y+(x+b.toNat) % 65521:Nat):Int) by omega,qcO _ _ (by decide),qa,qN (by omega) (by omega),qa]
   exact ih r (i+1) _ _ (by omega) (Nat.mod_lt _ (by decide)) (Nat.mod_lt _ (by decide)) (by omega)
theorem qmo (s:List UInt8) (hs:s.length≤4294967296):∃ S:Nat,S < 4294967296∧qnE s=some (S:Int) :=
 qkB s hs big s.length 0 1 0 (by omega) (by omega) (by omega) (by rw [qP];omega)
theorem qjJ {s:List UInt8} (hs:s.length≤4096):∃ l,qjo s=some (s++l,0)∧l.length=4:=by
 obtain ⟨S,hS,h1⟩:=qmo s (by omega)
 have e24:=yw S 24 (by decide)
 have e16:=yw S 16 (by decide)
 have e8:=yw S 8 (by decide)
 rw [qjo,if_neg (by omega),h1,qa]
 rw [show qbJ .u32 (S:Int) 24=_ from e24,qa,show qbJ .u32 (S:Int) 16=_ from e16,qa,show qbJ .u32 (S:Int) 8=_ from e8,qa,xR (by simp [zf];omega),qa]
 exact ⟨_,rfl,by simp [zf]⟩
def pF (s:List UInt8):List UInt8:=((qjo s).getD ([],0)).1
theorem qkK {s:List UInt8} (h:s.length≤4096):qjo s=some (pF s,0):=by
 obtain ⟨l,h1,_⟩:=qjJ h
 unfold pF;rw [h1];rfl
theorem qoc {s:List UInt8} (h:s.length≤4096):∃ l,pF s=s++l∧l.length=4:=by
 obtain ⟨l,h1,h2⟩:=qjJ h
 refine ⟨l,?_,h2⟩
 unfold pF;rw [h1];rfl
theorem qmt {s:List UInt8} (h:s.length≤4096):(pF s).length=s.length+4:=by
 obtain ⟨l,h1,h2⟩:=qoc h
 rw [h1,List.length_append,h2]
end Go.Proofs.YtdlemoeinjihkaaGreatDoor
end
section
namespace Go.Proofs.YtdlemoeinjihkaaGreatDoor
open Go.S
section
variable {α:Type} {l:List α} {a b:Int} {x y:α}
theorem upd_ok (h:idx l a=some x):upd l a y=some (l.set a.toNat y):=by
 obtain ⟨h0,h1,_⟩:=qe h
 exact if_pos ⟨h0,h1⟩
theorem qq (h:idx l a=some x):idx (l.set a.toNat y) a=some y:=by
 obtain ⟨h0,h1,_⟩:=qe h
 unfold idx
 rw [if_pos h0,List.getElem?_set_self (by omega)]
theorem kH (h:idx l b=some x) (ha:0≤a) (hne:a≠b):idx (l.set a.toNat y) b=some x:=by
 obtain ⟨h0,h1,h2⟩:=qe h
 unfold idx
 rw [if_pos h0,List.getElem?_set_ne (by omega),h2]
theorem zS (h:idx l a=some x):l.set a.toNat x=l:=by
 obtain ⟨h0,h1,h2⟩:=qe h
 exact zJ h2
theorem zB {z:α}:(l.set a.toNat x).set a.toNat z=l.set a.toNat z:=List.set_set ..
theorem qaZ (h0:0≤a) (h1:a < l.length):∃ x,idx l a=some x:=by
 obtain ⟨i,rfl⟩:=Int.eq_ofNat_of_zero_le h0
 exact ⟨_,qk (by omega)⟩
theorem qb3 (h:idx l a=some x):x∈l:=List.mem_of_getElem? (qe h).2.2
theorem qcU:idx (l++[x]) (l.length:Int)=some x:=by rw [z6];simp
end
theorem qr (i:Nat) (h:i < 9223372036854775807):i64 ((i:Int)+1)=some ((i+1:Nat):Int):=by rw [qN (by omega) (by omega)];rfl
theorem qgH {α:Type} {l:List α} {i:Nat} (h:i < l.length):l.drop i=l[i] :: l.drop (i+1):=List.drop_eq_getElem_cons h
theorem kG:∀ k,Lib.repeatL [(0:UInt8)] k=List.replicate k 0
 | 0=>rfl
 | k+1=>by simp [Lib.repeatL,kG k,List.replicate_succ]
theorem qmq (k:Nat) (h:k≤64):xA [0] (k:Int)=some (List.replicate k 0):=by
 unfold xA
 rw [if_pos ⟨by omega,by omega,by simp;omega⟩,Int.toNat_natCast,kG]
theorem qlm {l s:SS} (h:l.length=s.length):cpy l s=s:=by
 unfold cpy
 rw [Nat.min_eq_left (by omega),List.take_length,List.drop_eq_nil_of_le (by omega),List.append_nil]
def pad (s:List UInt8):List UInt8:=s++List.replicate (64 - s.length) 0
theorem qf2 {s:List UInt8} (h:s.length≤64):(pad s).length=64:=by
 unfold pad;rw [List.length_append,List.length_replicate];omega
theorem qgi {P:List UInt8→Prop} {T:SS} {i:Nat} {x:List UInt8} (hT:∀ y∈T,P y) (hx:P x):∀ y∈T.set i x,P y:=fun y hy=>by
 rcases List.mem_or_eq_of_mem_set hy with h | rfl
 ·exact hT y h
 ·exact hx
structure Dk (N:Nat) (d:TDisk):Prop where
 s:d.safe_.length=N
 t:d.seen_.length=N
 n:N≤256
 s64:∀ x∈d.safe_,x.length=64
 t64:∀ x∈d.seen_,x.length=64
 late:∀ w∈d.late_,0≤w.at_∧w.at_ < N∧w.text_.length=64
 l0 : -1≤d.left_
 l1:d.left_≤9223372036854775807
 ll:d.late_.length≤1000000
def qbZ (l:Int):Int:=if 0 < l then l - 1 else l
theorem qiC {l:Int} (h:l < 0):qbZ l=l:=if_neg (by omega)
section
variable {N:Nat} {d:TDisk} {D:List TDisk} {p:Int}
theorem qln (hp:idx D p=some d) (h0:d.left_=0):qkh p D=some (D,13):=by rw [qkh,hp,qa,if_pos h0]
theorem qgW (hp:idx D p=some d) (h:Dk N d) (h0:d.left_≠0):qkh p D=some (D.set p.toNat ⟨d.safe_,d.seen_,d.late_,qbZ d.left_⟩,0):=by
 have:=h.l0
 have:=h.l1
 rw [qkh,hp,qa,if_neg h0]
 by_cases c:0 < d.left_
 ·rw [if_pos c,qN (by omega) (by omega),qa,upd_ok hp,qa,qbZ,if_pos c]
 ·rw [if_neg c,qbZ,if_neg c,zS hp]
theorem qh1 (hp:idx D p=some d) (h:Dk N d) (h0:d.left_=0) {a:Int} (ha:0≤a) (ha2:a < N) {x:List UInt8} (hx:x.length≤64):M91 p a x D=some (D,13):=by
 have:=h.s
 rw [M91,if_neg (by omega),hp,qa,if_neg (by omega),if_neg (by omega),qln hp h0,qm,if_pos (by decide)]
theorem qh0 (hp:idx D p=some d) (h:Dk N d) (h0:d.left_≠0) {a:Int} (ha:0≤a) (ha2:a < N) {x:List UInt8} (hx:x.length≤64):M91 p a x D=some (D.set p.toNat ⟨d.safe_,d.seen_.set a.toNat (pad x),d.late_++[⟨a,pad x⟩],qbZ d.left_⟩,0):=by
 have hs:=h.s
 have ht:=h.t
 have hll:=h.ll
 obtain ⟨y,hy⟩:=qaZ (l:=d.seen_) ha (by omega)
 rw [M91,if_neg (by omega),hp,qa,if_neg (by omega),if_neg (by omega),qgW hp h h0,qm,if_neg (by decide),qN (by omega) (by omega),qa]
 rw [show (64 - (x.length:Int))=((64 - x.length:Nat):Int) by omega,qmq _ (by omega),qa,xR (by simp;omega),qa,qq hp,qa]
 simp only
 rw [hy,qa,upd_ok hy,qa,qH (by simp;omega),qa,upd_ok (qq hp),qa,zB]
 rfl
theorem qiM (hp:idx D p=some d) (h:Dk N d) (h0:d.left_≠0):M93 p D=some (D.set p.toNat ⟨d.seen_,d.seen_,[],qbZ d.left_⟩,0):=by
 rw [M93,qgW hp h h0,qm,if_neg (by decide),qq hp,qa,upd_ok (qq hp),qa,zB,qlm (by rw [h.s,h.t])]
theorem Dk.wrote (h:Dk N d) {a:Int} (ha:0≤a) (ha2:a < N) {x:List UInt8} (hx:x.length≤64) (hl:d.late_.length < 1000000):Dk N ⟨d.safe_,d.seen_.set a.toNat (pad x),d.late_++[⟨a,pad x⟩],qbZ d.left_⟩:=by
 have:=h.l0
 have:=h.l1
 refine ⟨h.s,by simp [h.t],h.n,h.s64,qgi (P:=fun x=>x.length=64) h.t64 (qf2 hx),?_,by simp only [qbZ];split <;> omega,by simp only [qbZ];split <;> omega,by simp;omega⟩
 intro w hw
 rcases List.mem_append.1 hw with h1 | h1
 ·exact h.late w h1
 ·rw [List.mem_singleton.1 h1];exact ⟨ha,ha2,qf2 hx⟩
theorem Dk.flushed (h:Dk N d):Dk N ⟨d.seen_,d.seen_,[],qbZ d.left_⟩:=by
 have:=h.l0
 have:=h.l1
 exact ⟨h.t,h.t,h.n,h.t64,h.t64,fun w hw=>(by cases hw),by simp only [qbZ];split <;> omega,by simp only [qbZ];split <;> omega,by simp⟩
end
def qos (keep:List Bool):Nat→List Twrite→SS→SS
 | _,[],S=>S
 | i,w :: L,S=>qos keep (i+1) L (if keep[i]?=some true then S.set w.at_.toNat w.text_ else S)
def qpf:List UInt8:=List.replicate 64 0
end Go.Proofs.YtdlemoeinjihkaaGreatDoor
end
section
namespace Go.Proofs.YtdlemoeinjihkaaGreatDoor
open Go.S
def Ep (e:Int):Prop:=0≤e∧e≤1000000
def hd (m:UInt8) (e q:Int):List UInt8:=[m]++pI e++pI q
def hl (e q:Int):Nat:=1+(pI e).length+(pI q).length
theorem qjP (m:UInt8) (e q:Int):(hd m e q).length=hl e q:=by simp [hd,hl];omega
theorem qk4 {e q:Int} (he:Ep e) (hq:Ep q):hl e q≤7:=by
 have:=qf3 (k:=e) (by have:=he.2;omega)
 have:=qf3 (k:=q) (by have:=hq.2;omega)
 unfold hl;omega
theorem Ep.lt {e:Int} (h:Ep e):e < 4611686018427387904:=by have:=h.2;omega
theorem qk5 {m:UInt8} {e q:Int} (he:Ep e) (hq:Ep q):ql6 [m] e q=some (hd m e q):=by
 have h1:=qf4 e
 have h2:=qf4 q
 rw [ql6,qfX he.1 he.lt,qa,xR (by simp;omega),qa,qfX hq.1 hq.lt,qa,xR (by simp;omega),qa];rfl
def aT (e:Int):List UInt8:=[3]++pF (pI e)
def anc (e:Int):List UInt8:=if e=0 then qpf else pad (aT e)
def qgN (e q:Int):Nat→UInt8→List UInt8→SS
 | 0,_,_=>[]
 | f+1,m,B=>if B=[] then [] else (hd m e q++B.take (64 - hl e q)) :: qgN e q f 2 (B.drop (64 - hl e q))
theorem qgM {e q:Int} (he:Ep e) (hq:Ep q):∀ (f:Nat) (B:List UInt8),B.length≤f→f≤500→∀ n,f < n→∀ (l:SS) (m:UInt8),l.length+f≤1000→yQ e q n B l [m]=some (l++qgN e q f m B):=by
 have h7:=qk4 he hq
 intro f
 induction f with
 | zero =>
  intro B hB _ n hn l m hl
  obtain ⟨n,rfl⟩:=Nat.exists_eq_add_one.2 hn
  obtain rfl:B=[]:=List.eq_nil_of_length_eq_zero (by omega)
  rw [yQ,qdf,if_neg (by simp)];simp [qg8,qgN]
 | succ f ih =>
  intro B hB hf n hn l m hl'
  obtain ⟨n,rfl⟩:=Nat.exists_eq_add_one.2 (show 0 < n by omega)
  rw [yQ,qdf,qgN]
  by_cases h0:B=[]
  ·rw [if_neg (by simp [h0]),if_pos h0,qg8,List.append_nil]
  ·have hBp:0 < B.length:=List.length_pos_iff.2 h0
   have hl64:=qjP m e q
   rw [if_pos h0,if_neg h0,qk5 he hq,qa,hl64,qN (by omega) (by omega),qa,qc8 (by omega) (by omega) (by omega),qa]
   have e1:(B.take (min (64 - (hl e q:Int)) (B.length:Int)).toNat).drop (0:Int).toNat=B.take (64 - hl e q):=by
    rcases Nat.le_total (64 - hl e q) B.length with h | h
    ·rw [show (min (64 - (hl e q:Int)) (B.length:Int)).toNat=64 - hl e q by omega];simp
    ·rw [show (min (64 - (hl e q:Int)) (B.length:Int)).toNat=B.length by omega,List.take_of_length_le h];simp
   have e2:(B.take (B.length:Int).toNat).drop (min (64 - (hl e q:Int)) (B.length:Int)).toNat=B.drop (64 - hl e q):=by
    rw [Int.toNat_natCast,List.take_length]
    rcases Nat.le_total (64 - hl e q) B.length with h | h
    ·rw [show (min (64 - (hl e q:Int)) (B.length:Int)).toNat=64 - hl e q by omega]
    ·rw [show (min (64 - (hl e q:Int)) (B.length:Int)).toNat=B.length by omega,List.drop_eq_nil_of_le h,List.drop_eq_nil_of_le (Nat.le_refl _)]
   rw [e1,xR (by rw [hl64];simp;omega),qa,qH (by simp;omega),qa,qc8 (by omega) (by omega) (by omega),qa,e2,ih (B.drop (64 - hl e q)) (by simp;omega) (by omega) n (by omega) _ 2 (by simp;omega)]
   simp
def body (t:List UInt8):List UInt8:=pF (pT t)
def jR (e q:Int) (t:List UInt8):SS:=qgN e q (body t).length 1 (body t)
theorem qda {t:List UInt8} (h:t.length≤300):(body t).length≤306∧5≤(body t).length:=by
 have h1:=qcL (s:=t) (by omega)
 have h2:=qmt (s:=pT t) (by omega)
 have h3:0 < (enc 10 t.length).length:=qcd 9 t.length
 have h4:(pT t).length=(enc 10 t.length).length+t.length:=by simp [pT]
 unfold body;omega
theorem qfS {e q:Int} (he:Ep e) (hq:Ep q) {t:List UInt8} (h:t.length≤300):M90 e q t=some (jR e q t):=by
 have hb:=qda h
 have h1:=qcL (s:=t) (by omega)
 have:=qgM he hq (body t).length (body t) (Nat.le_refl _) (by omega) big (by rw [qP];omega) [] 1 (by simp;omega)
 rw [M90,qfV (by omega),qm,qkK (by omega),qm]
 exact this
theorem qc7 {e q:Int}:∀ {f:Nat} {m:UInt8} {B:List UInt8} {x:List UInt8},x∈qgN e q f m B→∃ m' c,(m'=m∨m'=2)∧x=hd m' e q++c∧c.length≤64 - hl e q
 | 0,_,_,_,h=>by cases h
 | f+1,m,B,x,h=>by
  rw [qgN] at h
  split at h
  ·cases h
  ·rcases List.mem_cons.1 h with rfl | h
   ·exact ⟨m,_,.inl rfl,rfl,by rw [List.length_take];omega⟩
   ·obtain ⟨m',c,h1,h2,h3⟩:=qc7 h
    exact ⟨m',c,.inr (h1.elim id id),h2,h3⟩
theorem qkE {e q:Int} (he:Ep e) (hq:Ep q) {t x:List UInt8} (h:x∈jR e q t):x.length≤64:=by
 obtain ⟨m,c,_,rfl,hc⟩:=qc7 h
 have:=qk4 he hq
 rw [List.length_append,qjP];omega
theorem wZ {e q:Int} (he:Ep e) (hq:Ep q):∀ (f:Nat) (m:UInt8) (B:List UInt8),(qgN e q f m B).length*57≤B.length+56
 | 0,_,_=>by simp [qgN]
 | f+1,m,B=>by
  have h7:=qk4 he hq
  rw [qgN]
  split
  ·simp
  ·have hBp:0 < B.length:=List.length_pos_iff.2 (by assumption)
   have:=wZ he hq f 2 (B.drop (64 - hl e q))
   rw [List.length_drop] at this
   rw [List.length_cons]
   omega
theorem wN {e q:Int} (he:Ep e) (hq:Ep q) {t:List UInt8} (h:t.length≤300):(jR e q t).length≤6∧1≤(jR e q t).length:=by
 have hb:=qda h
 have h1:=wZ he hq (body t).length 1 (body t)
 refine ⟨by unfold jR;omega,?_⟩
 unfold jR
 obtain ⟨f,hf⟩:=Nat.exists_eq_add_one.2 (show 0 < (body t).length by omega)
 rw [hf,qgN,if_neg (by intro h0;rw [h0] at hf;simp at hf)]
 simp
structure Dead (m:Int) (s:List UInt8):Prop where
 len:s.length=64
 h:∀ q ep r,qnG s q=some (ep,r,true)→ep < m
 p:∀ ep q r,m≤ep→Ep ep→s≠hd 2 ep q++r
theorem Dead.mono {m m':Int} {s:List UInt8} (h:Dead m s) (hm:m≤m'):Dead m' s:=⟨h.len,fun q ep r hh=>Int.lt_of_lt_of_le (h.h q ep r hh) hm,fun ep q r hh=>h.p ep q r (Int.le_trans hm hh)⟩
end Go.Proofs.YtdlemoeinjihkaaGreatDoor
end
section
namespace Go.Proofs.YtdlemoeinjihkaaGreatDoor
open Go.S
section
variable {G:List TLog} {g:Int} {l:TLog}
theorem qlh {e:Int} (h:idx G g=some l) (he:e≠0):M92 g e G=some (G.set g.toNat ⟨l.d_,l.from_,l.size_,l.epoch_,l.at_,l.seq_,true⟩,e):=by
  rw [M92,h,qa]
  split
  · rw [upd_ok h,qa]
  · rw [upd_ok h,qa,decide_eq_true he]
theorem qli (h:idx G g=some l) (hf:l.fell_=false):M92 g 0 G=some (G,0):=by
  rw [M92,h,qa,if_neg (by simp [hf]),upd_ok h,qa]
  have:(⟨l.d_,l.from_,l.size_,l.epoch_,l.at_,l.seq_,decide ((0:Int)≠0)⟩:TLog)=l:=by
    obtain ⟨x1,x2,x3,x4,x5,x6,x7⟩:=l
    simp only at hf
    subst hf;rfl
  rw [this,zS h]
end
def wr (d:TDisk) (a:Int) (x:List UInt8):TDisk:=⟨d.safe_,d.seen_.set a.toNat (pad x),d.late_++[⟨a,pad x⟩],qbZ d.left_⟩
def fl (d:TDisk):TDisk:=⟨d.seen_,d.seen_,[],qbZ d.left_⟩
def wrs (d:TDisk) (a:Int):SS→TDisk
  | []=>d
  | x :: P=>wrs (wr d a x) (a+1) P
theorem yp:∀ (P:SS) (d:TDisk) (a:Int),d.left_ < 0→(wrs d a P).left_=d.left_
  | [],_,_,_=>rfl
  | x :: P,d,a,h=>by
    have hw:(wr d a x).left_=d.left_:=qiC h
    rw [wrs,yp P _ _ (by rw [hw];exact h),hw]
def qoU (l:TLog):TLog:=⟨l.d_,l.from_,l.size_,l.epoch_,l.at_,l.seq_,true⟩
def more (l:TLog) (k:Nat):TLog:=⟨l.d_,l.from_,l.size_,l.epoch_,l.at_+k,l.seq_+1,l.fell_⟩
section
variable {G:List TLog} {g:Int} {l:TLog} {N:Nat}
theorem qiZ (h:idx G g=some l) (h0:0≤l.from_) (h1:0≤l.at_) (hN:N≤256) (P:SS) (hP:∀ x∈P,x.length≤64) (hz:l.from_+l.at_+P.length≤N):∀ (Q:SS) (i:Nat) (D:List TDisk) (d:TDisk),P.drop i=Q→i≤P.length→idx D l.d_=some d→Dk N d→d.late_.length+Q.length≤1000000→∀ n,Q.length < n →
    ∃ j,j≤Q.length∧Dk N (wrs d (l.from_+l.at_+i) (Q.take j))∧(j < Q.length→(wrs d (l.from_+l.at_+i) (Q.take j)).left_=0∧wt P G g n (i:Int) D=some (D.set l.d_.toNat (wrs d (l.from_+l.at_+i) (Q.take j)),G.set g.toNat (qoU l),13)) ∧
      (j=Q.length→wt P G g n (i:Int) D=qhd G g P (D.set l.d_.toNat (wrs d (l.from_+l.at_+i) Q))):=by
  intro Q
  induction Q with
  | nil =>
    intro i D d hQ hi hp hk hl n hn
    obtain ⟨n,rfl⟩:=Nat.exists_eq_add_one.2 hn
    have hil:P.length≤i:=by
      have:=congrArg List.length hQ
      simp at this;omega
    refine ⟨0,Nat.le_refl _,hk,fun h=>absurd h (Nat.lt_irrefl _),fun _=>?_⟩
    rw [wt,qdl,if_neg (by omega),wrs,zS hp]
  | cons x Q ih =>
    intro i D d hQ hi hp hk hl n hn
    obtain ⟨n,rfl⟩:=Nat.exists_eq_add_one.2 (show 0 < n by omega)
    rw [List.length_cons] at hl hn
    have hx:P[i]?=some x:=by
      have:=congrArg (fun l=>l[0]?) hQ
      simpa using this
    have hil:=(List.getElem?_eq_some_iff.1 hx).1
    have hx64:=hP x (List.mem_of_getElem? hx)
    have hQl:=congrArg List.length hQ
    rw [List.length_drop,List.length_cons] at hQl
    have hQ2:P.drop (i+1)=Q:=by
      have:=congrArg List.tail hQ
      rw [List.tail_drop] at this
      simpa using this
    rw [wt,qdl,if_pos (by omega),z6,hx,qa,h,qa,qN (by omega) (by omega),qa,qN (by omega) (by omega),qa]
    by_cases hd:d.left_=0
    · rw [qh1 hp hk hd (by omega) (by omega) hx64,qm,if_pos (by decide),qlh h (by decide),qm]
      refine ⟨0,Nat.zero_le _,hk,fun _=>⟨hd,?_⟩,fun h=>by simp at h⟩
      rw [List.take_zero,wrs,zS hp];rfl
    · have hw:Dk N (wr d (l.from_+l.at_+i) x):=hk.wrote (by omega) (by omega) hx64 (by omega)
      rw [qh0 hp hk hd (by omega) (by omega) hx64,qm,if_neg (by decide),qr i (by omega),qa]
      obtain ⟨j,g1,g2,g3,g4⟩:=ih (i+1) (D.set l.d_.toNat (wr d (l.from_+l.at_+i) x)) (wr d (l.from_+l.at_+i) x) hQ2 (by omega) (qq hp) hw (by simp only [wr,List.length_append,List.length_cons,List.length_nil];omega) n (by omega)
      have he:l.from_+l.at_+((i+1:Nat):Int)=l.from_+l.at_+(i:Int)+1:=by push_cast;omega
      rw [he] at g2 g3 g4
      rw [zB] at g3 g4
      refine ⟨j+1,by rw [List.length_cons];omega,g2,fun hj=>?_,fun hj=>?_⟩
      · rw [List.length_cons] at hj
        exact g3 (by omega)
      · rw [List.length_cons] at hj
        exact g4 (by omega)
theorem qg3 {D:List TDisk} {d:TDisk} (h:idx G g=some l) (hf:l.fell_=false) (h0:0≤l.from_) (h1:0≤l.at_) (hp:idx D l.d_=some d) (hk:Dk N d) (hn:l.from_+l.size_≤N) (hE:Ep l.epoch_) (hq0:0≤l.seq_) (hq1:l.seq_≤l.at_) (hat:l.at_≤l.size_) (hl:d.late_.length≤1000) {t:List UInt8} (ht:t.length≤300) :
    (l.size_ < l.at_+(jR l.epoch_ l.seq_ t).length∧M51 g t D G=some (D,G,8)) ∨
    (l.at_+(jR l.epoch_ l.seq_ t).length≤l.size_ ∧
      ((Dk N (wrs d (l.from_+l.at_) (jR l.epoch_ l.seq_ t))∧M51 g t D G=some (D.set l.d_.toNat (wrs d (l.from_+l.at_) (jR l.epoch_ l.seq_ t)),G.set g.toNat (more l (jR l.epoch_ l.seq_ t).length),0)) ∨
       (∃ j,Dk N (wrs d (l.from_+l.at_) ((jR l.epoch_ l.seq_ t).take j))∧(wrs d (l.from_+l.at_) ((jR l.epoch_ l.seq_ t).take j)).left_=0∧M51 g t D G=some (D.set l.d_.toNat (wrs d (l.from_+l.at_) ((jR l.epoch_ l.seq_ t).take j)),G.set g.toNat (qoU l),13)))):=by
  have hkn:=hk.n
  have hq:Ep l.seq_:=⟨hq0,by omega⟩
  have hc:=wN hE hq ht
  rw [M51,h,qa,if_neg (by simp [hf]),if_neg (by omega),qfS hE hq ht,qa,qN (by omega) (by omega),qa]
  by_cases c:l.size_ < l.at_+(jR l.epoch_ l.seq_ t).length
  · left
    exact ⟨c,if_pos c⟩
  · right
    refine ⟨by omega,?_⟩
    rw [if_neg c]
    obtain ⟨j,g1,g2,g3,g4⟩:=qiZ h h0 h1 hkn (jR l.epoch_ l.seq_ t) (fun x hx=>qkE hE hq hx) (by omega) (jR l.epoch_ l.seq_ t) 0 D d rfl (Nat.zero_le _) hp hk (by omega) big (by rw [qP];omega)
    rw [show l.from_+l.at_+((0:Nat):Int)=l.from_+l.at_ by simp] at g2 g3 g4
    rw [show ((0:Nat):Int)=0 from rfl] at g3 g4
    by_cases hj:j=(jR l.epoch_ l.seq_ t).length
    · left
      subst hj
      rw [List.take_length] at g2
      refine ⟨g2,?_⟩
      rw [g4 rfl,qhd,h,qa,qN (by omega) (by omega),qa,qN (by omega) (by omega),qa,upd_ok h,qa]
      rfl
    · right
      obtain ⟨h5,h6⟩:=g3 (by omega)
      exact ⟨j,g2,h5,h6⟩
theorem qkA {D:List TDisk} {d:TDisk} (h:idx G g=some l) (hf:l.fell_=false) (hp:idx D l.d_=some d) (hk:Dk N d) (hl:d.left_≠0):M53 g D G=some (D.set l.d_.toNat (fl d),G,0):=by
  rw [M53,h,qa,if_neg (by simp [hf]),qiM hp hk hl,qm,qli h hf,qm]
  rfl
end
end Go.Proofs.YtdlemoeinjihkaaGreatDoor
end
section
namespace Go.Proofs.YtdlemoeinjihkaaGreatDoor
open Go.S
def xg (l:List TVersion):Prop:=∀ i (h:i+1 < l.length),l[i].At < l[i+1].At
def qaW (l:List TVersion):Nat→Int
  | 0=>0
  | i+1=>match l[i]? with
    | some v=>v.At
    | none=>0
theorem vJ {l:List TVersion} {i:Nat} (h:i < l.length):qaW l (i+1)=l[i].At:=by simp [qaW,h]
theorem qna (a:List Int) (now:Int) (hl:a.length≤12) (ha:∀ s∈a,0≤s∧s≤now):∀ (r i:Nat),i+r=a.length→∀ n,r < n→jP a now n (i:Int)=some 0:=by
  intro r
  induction r with
  | zero =>
    intro i hi n hn
    obtain ⟨n,rfl⟩:=Nat.exists_eq_add_one.2 hn
    rw [jP,qam,if_neg (by omega),qea]
  | succ r ih =>
    intro i hi n hn
    obtain ⟨n,rfl⟩:=Nat.exists_eq_add_one.2 (show 0 < n by omega)
    have h1:i < a.length:=by omega
    have h2:=ha a[i] (List.getElem_mem h1)
    rw [jP,qam,if_pos (by omega),qk h1,qa,if_neg (by omega),if_neg (by omega),qr i (by omega),qa]
    exact ih (i+1) (by omega) n (by omega)
theorem qkr (l:List TVersion) (a:List Int) (now:Int) (hl:l.length≤100) (ha1:a.length≤12) (ha:∀ s∈a,0≤s∧s≤now) (hs:xg l) (hv:∀ v∈l,1≤v.At∧v.At≤now):∀ (r i:Nat),i+r=l.length→∀ n,r < n→jO l now a n (qaW l i) (i:Int)=some 0:=by
  intro r
  induction r with
  | zero =>
    intro i hi n hn
    obtain ⟨n,rfl⟩:=Nat.exists_eq_add_one.2 hn
    rw [jO,qal,if_neg (by omega),qeb]
    exact qna a now ha1 ha a.length 0 (by omega) big (by rw [qP];omega)
  | succ r ih =>
    intro i hi n hn
    obtain ⟨n,rfl⟩:=Nat.exists_eq_add_one.2 (show 0 < n by omega)
    have h1:i < l.length:=by omega
    have h2:=hv l[i] (List.getElem_mem h1)
    have h3:qaW l i < l[i].At:=by
      cases i with
      | zero=>simp only [qaW];omega
      | succ i=>rw [vJ (by omega)];exact hs i h1
    rw [jO,qal,if_pos (by omega),qk h1,qa,if_neg (by omega),if_neg (by omega),qr i (by omega),qa]
    have:=ih (i+1) (by omega) n (by omega)
    rw [vJ h1] at this
    exact this
theorem qiT {l:List TVersion} {a:List Int} {now:Int} (h0:0≤now) (hl:l.length≤100) (ha1:a.length≤12) (ha:∀ s∈a,0≤s∧s≤now) (hs:xg l) (hv:∀ v∈l,1≤v.At∧v.At≤now):qnf l a now=some 0:=by
  rw [qnf,if_neg (by omega),if_neg (by omega),if_neg (by omega)]
  exact qkr l a now hl ha1 ha hs hv l.length 0 (by omega) big (by rw [qP];omega)
def lst (l:List TVersion) (s:Int):Nat→Int
  | 0=>-1
  | i+1=>match l[i]? with
    | some v=>if v.At≤s then (i:Int) else lst l s i
    | none=>lst l s i
theorem vh {l:List TVersion} {i:Nat} (s:Int) (h:i < l.length):lst l s (i+1)=if l[i].At≤s then (i:Int) else lst l s i:=by simp [lst,h]
theorem qgj (l:List TVersion) (s:Int):∀ i,-1≤lst l s i∧lst l s i < i
  | 0=>by simp [lst]
  | i+1=>by
    have:=qgj l s i
    simp only [lst]
    split
    · split <;> omega
    · omega
theorem qn9 (l:List TVersion) (s:Int) (hl:l.length≤1000):∀ (r i:Nat),i+r=l.length→∀ n,r < n→qaf l s n (lst l s i) (i:Int)=qhD l (lst l s l.length):=by
  intro r
  induction r with
  | zero =>
    intro i hi n hn
    obtain ⟨n,rfl⟩:=Nat.exists_eq_add_one.2 hn
    rw [qaf,qdU,if_neg (by omega),show i=l.length by omega]
  | succ r ih =>
    intro i hi n hn
    obtain ⟨n,rfl⟩:=Nat.exists_eq_add_one.2 (show 0 < n by omega)
    have h1:i < l.length:=by omega
    rw [qaf,qdU,if_pos (by omega),qk h1,qa,qr i (by omega),qa,qa]
    have:=ih (i+1) (by omega) n (by omega)
    rw [vh s h1] at this
    by_cases c:l[i].At≤s
    · rw [if_pos c] at this ⊢;exact this
    · rw [if_neg c] at this ⊢;exact this
theorem qaI {l:List TVersion} (hs:xg l):∀ (d i:Nat) (h:i+d < l.length),l[i].At≤l[i+d].At
  | 0,i,h=>Int.le_refl _
  | d+1,i,h=>by
    have h1:=qaI hs d i (by omega)
    have h2:=hs (i+d) (by omega)
    simp only [← Nat.add_assoc]
    omega
theorem kf {l:List TVersion} (hs:xg l) {i j:Nat} (hij:i≤j) (hj:j < l.length):l[i].At≤l[j].At:=by
  obtain ⟨d,rfl⟩:∃ d,j=i+d:=⟨j - i,by omega⟩
  exact qaI hs d i hj
theorem qmC {l:List TVersion} (s:Int) (k:Nat) (hk:k≤l.length) (h1:∀ i (h:i < l.length),i < k→l[i].At≤s) (h2:∀ i (h:i < l.length),k≤i→s < l[i].At):∀ i,k≤i→i≤l.length→lst l s i=(k:Int) - 1:=by
  intro i hki
  induction i with
  | zero => intro _; have : k = 0 := by omega
            subst this;simp [lst]
  | succ i ih =>
    intro hi
    rw [vh s (by omega)]
    by_cases c:k≤i
    · rw [if_neg (by have:=h2 i (by omega) c;omega)];exact ih c (by omega)
    · have:k=i+1:=by omega
      subst this
      rw [if_pos (h1 i (by omega) (by omega))];omega
theorem qez (l:List TVersion) (hs:xg l) (s:Int) (hl:l.length≤100):∀ (d i j:Nat),j - i≤d→i≤j→j≤l.length→(∀ q (h:q < l.length),q < i→l[q].At≤s)→(∀ q (h:q < l.length),j≤q→s < l[q].At)→∀ n,d < n →
    jN l s n (i:Int) (j:Int)=some (lst l s l.length):=by
  intro d
  induction d with
  | zero =>
    intro i j hd hij hj h1 h2 n hn
    obtain ⟨n,rfl⟩:=Nat.exists_eq_add_one.2 hn
    have:i=j:=by omega
    subst this
    rw [jN,qak,if_neg (by omega),qmC s i hj h1 h2 l.length hj (Nat.le_refl _),qd9]
    have hk:∀ b,yj (i:Int) b=some ((i:Int) - 1):=fun b=>by rw [yj,qN (by omega) (by omega),qa]
    by_cases c:(i:Int) < l.length
    · rw [if_pos c,qk (by omega),qa,yi,yi,hk,hk]
      simp
    · rw [if_neg c,hk]
  | succ d ih =>
    intro i j hd hij hj h1 h2 n hn
    obtain ⟨n,rfl⟩:=Nat.exists_eq_add_one.2 (show 0 < n by omega)
    by_cases hlt:i < j
    · rw [jN,qak,if_pos (by omega),qN (by omega) (by omega),qa]
      have e1:IntKind.wrap .u64 ((i:Int)+(j:Int))=((i+j:Nat):Int):=by rw [qbA];omega
      rw [e1,show (1:Int)=((1:Nat):Int) by rfl,qcF _ _ (by decide),qa]
      have e2:IntKind.wrap .i64 (((i+j) / 2 ^ 1:Nat):Int)=(((i+j) / 2:Nat):Int):=by rw [qkm (by omega) (by omega)]
      simp only [qbq,e2]
      have hm:(i+j) / 2 < l.length:=by omega
      rw [qk hm,qa]
      by_cases c:l[(i+j) / 2].At≤s
      · rw [if_pos c,if_pos (by omega),qr _ (by omega),qa]
        exact ih ((i+j) / 2+1) j (by omega) (by omega) hj (fun q hq hlt'=>by have:=kf hs (show q≤(i+j) / 2 by omega) hm;omega) h2 n (by omega)
      · rw [if_neg c,if_neg (by omega)]
        exact ih i ((i+j) / 2) (by omega) (by omega) (by omega) h1 (fun q hq hle=>by have:=kf hs hle hq;omega) n (by omega)
    · exact (by
        have:i=j:=by omega
        subst this
        have h0:=ih i i (by omega) (by omega) hj h1 h2 (n+1) (by omega)
        exact h0)
theorem qox (l:List TVersion) (hs:xg l) (s:Int) (hl:l.length≤100):qnF l s=some (lst l s l.length) :=
  qez l hs s hl l.length 0 l.length (by omega) (by omega) (Nat.le_refl _) (by omega) (by omega) big (by rw [qP];omega)
def jS (l:List TVersion) (c:Nat→Bool):Nat→Nat→List TVersion
  | 0,_=>[]
  | r+1,i=>match l[i]? with
    | some v=>if c i=true then v :: jS l c r (i+1) else jS l c r (i+1)
    | none=>[]
theorem xJ {l:List TVersion} (c:Nat→Bool) (r:Nat) {i:Nat} (h:i < l.length):jS l c (r+1) i=if c i=true then l[i] :: jS l c r (i+1) else jS l c r (i+1):=by simp [jS,h]
theorem qiF (l:List TVersion) (m:List (Int×Int)) (hl:l.length≤100):∀ (r i:Nat),i+r=l.length→∀ n,r < n→∀ o:List TVersion,o.length+r≤1000 →
    yS l m n o (i:Int)=some (o++jS l (fun i=>decide (0 < ko m (i:Int) 0)) r i,0):=by
  intro r
  induction r with
  | zero =>
    intro i hi n hn o _
    obtain ⟨n,rfl⟩:=Nat.exists_eq_add_one.2 hn
    rw [yS,qdh,if_neg (by omega),qi4,jS,List.append_nil]
  | succ r ih =>
    intro i hi n hn o ho
    obtain ⟨n,rfl⟩:=Nat.exists_eq_add_one.2 (show 0 < n by omega)
    have h1:i < l.length:=by omega
    rw [yS,qdh,if_pos (by omega),qk h1,qa,qr i (by omega),xJ _ _ h1]
    by_cases c:0 < ko m (i:Int) 0
    · rw [if_pos c,qH (by simp;omega),qa,qa,ih (i+1) (by omega) n (by omega) _ (by simp;omega),if_pos (by simpa using c)]
      simp
    · rw [if_neg c,qa,ih (i+1) (by omega) n (by omega) o (by omega),if_neg (by simpa using c)]
theorem qgO (l:List TVersion) (hs:xg l) (hl:l.length≤100) (a:List Int) (ha:a.length≤13):∀ (r i:Nat),i+r=a.length→∀ n,r < n→∀ m:List (Int×Int),(∀ k,0≤ko m k 0∧ko m k 0≤i)→(∀ k,0 < ko m k 0↔∃ s∈a.take i,lst l s l.length=k) →
    ∃ m',yR a l n (i:Int) m=qg9 l m'∧∀ k,0 < ko m' k 0↔∃ s∈a,lst l s l.length=k:=by
  intro r
  induction r with
  | zero =>
    intro i hi n hn m h1 h2
    obtain ⟨n,rfl⟩:=Nat.exists_eq_add_one.2 hn
    refine ⟨m,by rw [yR,qdg,if_neg (by omega)],fun k=>?_⟩
    rw [h2 k,List.take_of_length_le (by omega)]
  | succ r ih =>
    intro i hi n hn m h1 h2
    obtain ⟨n,rfl⟩:=Nat.exists_eq_add_one.2 (show 0 < n by omega)
    have hil:i < a.length:=by omega
    have hb:=h1 (lst l a[i] l.length)
    rw [yR,qdg,if_pos (by omega),qk hil,qa,qox l hs _ hl,qa,qN (by omega) (by omega),qa,qa,qr i (by omega),qa]
    refine ih (i+1) (by omega) n (by omega) _ (fun k=>?_) (fun k=>?_)
    · rw [qaU]
      have:=h1 k
      split <;> omega
    · rw [qaU,List.take_succ_eq_append_getElem hil]
      by_cases c:k=lst l a[i] l.length
      · rw [if_pos c]
        refine ⟨fun _=>⟨a[i],List.mem_append.2 (.inr (List.mem_singleton.2 rfl)),c.symm⟩,fun _=>by omega⟩
      · rw [if_neg c,h2 k]
        constructor
        · rintro ⟨s,hs1,hs2⟩;exact ⟨s,List.mem_append.2 (.inl hs1),hs2⟩
        · rintro ⟨s,hs1,hs2⟩
          rcases List.mem_append.1 hs1 with h | h
          · exact ⟨s,h,hs2⟩
          · rw [List.mem_singleton] at h;subst h;exact absurd hs2.symm c
def kr (l:List TVersion) (b:List Int):Nat→Bool:=fun i=>decide (∃ s∈b,lst l s l.length=(i:Int))
theorem qk0 {l:List TVersion} {a:List Int} {now:Int} (h0:0≤now) (hl:l.length≤100) (ha1:a.length≤12) (ha:∀ s∈a,0≤s∧s≤now) (hs:xg l) (hv:∀ v∈l,1≤v.At∧v.At≤now) :
    M86 l a now=some (jS l (kr l (a++[now])) l.length 0,0):=by
  rw [M86,qiT h0 hl ha1 ha hs hv]
  simp only [qa]
  rw [if_neg (by decide),M48,qH (by simp;omega),qa,qa,List.nil_append,qH (by simp;omega),qa]
  obtain ⟨m',h1,h2⟩:=qgO l hs hl (a++[now]) (by simp;omega) (a++[now]).length 0 (by omega) big (by rw [qP];simp;omega) [] (by simp [ko]) (by simp [ko])
  rw [show ((0:Nat):Int)=0 by rfl] at h1
  rw [h1,qg9]
  have:=qiF l m' hl l.length 0 (by omega) big (by rw [qP];omega) [] (by simp;omega)
  rw [show ((0:Nat):Int)=0 by rfl] at this
  rw [this,List.nil_append]
  congr 2
  have:(fun i:Nat=>decide (0 < ko m' (i:Int) 0))=kr l (a++[now]):=funext fun i=>decide_eq_decide.2 (h2 i)
  rw [this]
theorem vj (l:List TVersion) (c:Nat→Bool):∀ r i,(jS l c r i).Sublist (l.drop i)
  | 0,i=>by rw [jS];exact List.nil_sublist _
  | r+1,i=>by
    by_cases h:i < l.length
    · rw [xJ c r h,List.drop_eq_getElem_cons h]
      have:=vj l c r (i+1)
      split
      · exact this.cons_cons _
      · exact this.cons _
    · simp only [jS]
      rw [List.getElem?_eq_none (by omega)]
      exact List.nil_sublist _
theorem qaX (l:List TVersion) (c:Nat→Bool) (hl:0 < l.length) (hc:c (l.length - 1)=true):∀ r i,i+r=l.length→i < l.length→(jS l c r i).getLast?=l.getLast?
  | 0,i,h,h2=>by omega
  | r+1,i,h,h2=>by
    rw [xJ c r h2]
    by_cases e:i+1=l.length
    · have hi:i=l.length - 1:=by omega
      have hci:c i=true:=by rw [hi];exact hc
      have hr:r=0:=by omega
      subst hr
      rw [if_pos hci,List.getLast?_eq_getElem? (l:=l),← hi,List.getElem?_eq_getElem h2]
      rfl
    · have ih:=qaX l c hl hc r (i+1) (by omega) (by omega)
      split
      · rw [List.getLast?_cons,ih]
        rw [List.getLast?_eq_getElem?,List.getElem?_eq_getElem (by omega)]
        rfl
      · exact ih
theorem qaY (l:List TVersion) {c c':Nat→Bool}:∀ r i,(∀ j,i≤j→c j=c' j)→jS l c r i=jS l c' r i
  | 0,i,_=>rfl
  | r+1,i,h=>by
    simp only [jS]
    rw [h i (Nat.le_refl _),qaY l r (i+1) fun j hj=>h j (by omega)]
theorem kq (l:List TVersion) (f:Int→Int):∀ r i (b:List Int),(jS l (fun i=>decide (∃ s∈b,f s=(i:Int))) r i).length≤b.length
  | 0,i,b=>by simp [jS]
  | r+1,i,b=>by
    by_cases h:i < l.length
    · rw [xJ _ r h]
      by_cases c:∃ s∈b,f s=(i:Int)
      · rw [if_pos (by simpa using c)]
        have e:jS l (fun i=>decide (∃ s∈b,f s=(i:Int))) r (i+1)=jS l (fun i'=>decide (∃ s∈b.filter (fun s=>decide (f s≠(i:Int))),f s=(i':Int))) r (i+1):=by
          apply qaY
          intro j hj
          apply decide_eq_decide.2
          constructor
          · rintro ⟨s,h1,h2⟩
            exact ⟨s,List.mem_filter.2 ⟨h1,by simp;omega⟩,h2⟩
          · rintro ⟨s,h1,h2⟩
            exact ⟨s,(List.mem_filter.1 h1).1,h2⟩
        have ih:=kq l f r (i+1) (b.filter (fun s=>decide (f s≠(i:Int))))
        have hlt:(b.filter (fun s=>decide (f s≠(i:Int)))).length < b.length:=by
          obtain ⟨s,h1,h2⟩:=c
          exact List.length_filter_lt_length_iff_exists.2 ⟨s,h1,by simp [h2]⟩
        rw [e,List.length_cons]
        omega
      · rw [if_neg (by simpa using c)]
        exact kq l f r (i+1) b
    · simp only [jS]
      rw [List.getElem?_eq_none (by omega)]
      simp
end Go.Proofs.YtdlemoeinjihkaaGreatDoor
end
section
namespace Go.Proofs.YtdlemoeinjihkaaGreatDoor
open Go.S
theorem qeD (l:List Int) (a:Int) (hl:l.length≤1000):∀ (r i:Nat),i+r=l.length→∀ n,r < n→∃ k,jw l a n (i:Int)=some k∧(0≤k↔a∈l.drop i):=by
 intro r
 induction r with
 | zero =>
  intro i hi n hn
  obtain ⟨n,rfl⟩:=Nat.exists_eq_add_one.2 hn
  rw [jw,kK,if_neg (by omega),qeL,List.drop_eq_nil_of_le (by omega)]
  exact ⟨-1,rfl,by simp⟩
 | succ r ih =>
  intro i hi n hn
  obtain ⟨n,rfl⟩:=Nat.exists_eq_add_one.2 (show 0 < n by omega)
  have h1:i < l.length:=by omega
  rw [jw,kK,if_pos (by omega),qk h1,qa,qgH h1]
  by_cases c:a=l[i]
  ·rw [if_pos c]
   exact ⟨i,rfl,⟨fun _=>by rw [← c];exact List.mem_cons_self,fun _=>by omega⟩⟩
  ·rw [if_neg c,qr i (by omega),qa]
   obtain ⟨k,g1,g2⟩:=ih (i+1) (by omega) n (by omega)
   refine ⟨k,g1,g2.trans ⟨fun h=>List.mem_cons_of_mem _ h,fun h=>?_⟩⟩
   rcases List.mem_cons.1 h with h | h
   ·exact absurd h c
   ·exact h
theorem qcV {l:List Int} (a:Int) (hl:l.length≤1000):M19 l a=some (decide (a∈l)):=by
 obtain ⟨k,h1,h2⟩:=qeD l a hl l.length 0 (by omega) big (by rw [qP];omega)
 rw [List.drop_zero] at h2
 rw [M19,M41]
 rw [show ((0:Nat):Int)=0 by rfl] at h1
 rw [h1,qa,decide_eq_decide.2 h2]
structure TxOk (now:Int) (t:Ttx):Prop where
 i0:0≤t.id_
 i1:t.id_ < 12
 f0:0≤t.from_
 f1:t.from_≤now
 r:t.reads_.length≤20∧t.reads_.Nodup∧∀ k∈t.reads_,0≤k∧k < 20
 w:t.writes_.length≤20∧t.writes_.Nodup∧∀ k∈t.writes_,0≤k∧k < 20
 t20:t.texts_.length=20
 tl:∀ x∈t.texts_,x.length≤20
def Txs (X:List Ttx) (now:Int) (l:List Int):Prop:=∀ x∈l,∃ t,idx X x=some t∧TxOk now t
structure Vs (now:Int) (l:List TVersion):Prop where
 ne:l≠[]
 s:xg l
 b:∀ v∈l,0≤v.At∧v.At≤now∧v.Text.length≤20
 n:l.length≤50
def qpE (X:List Ttx) (l:List Int):List Int:=l.map fun x=>(X.getD x.toNat default).id_
structure StOk (S:TStore) (X:List Ttx):Prop where
 lg:S.logs_.length=2
 it:S.items_.length=20
 vs:∀ l∈S.items_,Vs S.now_ l
 n0:0≤S.now_
 n1:S.now_≤2513169434000
 ac:Txs X S.now_ S.active_
 a12:S.active_.length≤12
 an:S.active_.Nodup
 ai:∀ x∈S.active_,∀ y∈S.active_,∀ t u,idx X x=some t→idx X y=some u→t.id_=u.id_→x=y
 ov:Txs X S.now_ S.over_
 ol:(S.over_.length:Int)≤S.now_
 ao:∀ x∈S.active_,x ∉ S.over_
section
variable {T:List TStore} {X:List Ttx} {s:Int} {S:TStore}
theorem qgx (id:Int) (ha:Txs X S.now_ S.active_) (hl:S.active_.length≤1000):∀ (r i:Nat),i+r=S.active_.length→(∀ x∈S.active_.take i,∀ t,idx X x=some t→t.id_≠id)→∀ n,r < n →
  ∃ k,qag S X id n (i:Int)=some k∧((0≤k∧k∈S.active_∧∃ t,idx X k=some t∧t.id_=id)∨(k=-1∧∀ x∈S.active_,∀ t,idx X x=some t→t.id_≠id)):=by
 intro r
 induction r with
 | zero =>
  intro i hi h0 n hn
  obtain ⟨n,rfl⟩:=Nat.exists_eq_add_one.2 hn
  rw [qag,qdV,if_neg (by omega),qjn,qe2,if_pos (by omega)]
  rw [List.take_of_length_le (by omega)] at h0
  exact ⟨-1,rfl,.inr ⟨rfl,h0⟩⟩
 | succ r ih =>
  intro i hi h0 n hn
  obtain ⟨n,rfl⟩:=Nat.exists_eq_add_one.2 (show 0 < n by omega)
  have h1:i < S.active_.length:=by omega
  obtain ⟨t,ht,hk⟩:=ha S.active_[i] (List.getElem_mem h1)
  rw [qag,qdV,if_pos (by omega),qk h1,qa,ht,qa,qjm]
  by_cases c:t.id_=id
  ·rw [if_pos (by simpa using c),qe2,if_neg (by omega),qk h1,qa]
   exact ⟨_,rfl,.inl ⟨(qe ht).1,List.getElem_mem h1,t,ht,c⟩⟩
  ·rw [if_neg (by simpa using c),qr i (by omega),qa]
   refine ih (i+1) (by omega) (fun x hx u hu=>?_) n (by omega)
   rw [List.take_succ_eq_append_getElem h1] at hx
   rcases List.mem_append.1 hx with hx | hx
   ·exact h0 x hx u hu
   ·rw [List.mem_singleton.1 hx,ht,Option.some.injEq] at hu
    rw [← hu];exact c
theorem qgw (hs:idx T s=some S) (h:StOk S X) (id:Int):∃ k,M17 s id T X=some k∧((0≤k∧k∈S.active_∧∃ t,idx X k=some t∧t.id_=id)∨(k=-1∧∀ x∈S.active_,∀ t,idx X x=some t→t.id_≠id)):=by
 have:=h.a12
 obtain ⟨k,h1,h2⟩:=qgx (X:=X) (S:=S) id h.ac (by omega) S.active_.length 0 (by omega) (by simp) big (by rw [qP];omega)
 refine ⟨k,?_,h2⟩
 rw [M17,hs,qa,qD h.lg,qa,qD h.it,qa]
 exact h1
theorem qlp (hs:idx T s=some S) (h:StOk S X) (id item:Int):∃ k e,M18 s id item T X=some (k,e) ∧
  ((e=0∧S.down_=false∧0≤k∧k∈S.active_∧0≤item∧item < 20∧∃ t,idx X k=some t∧t.id_=id)∨(e=13∧S.down_=true)∨e=1∨e=6):=by
 have hb:∀ b,∃ k e,qbn item s id T X b=some (k,e)∧((e=0∧b=false∧0≤k∧k∈S.active_∧0≤item∧item < 20∧∃ t,idx X k=some t∧t.id_=id)∨e=1∨e=6):=by
  intro b
  rw [qbn]
  cases b with
  | true=>rw [if_pos rfl];exact ⟨_,_,rfl,.inr (.inl rfl)⟩
  | false =>
   rw [if_neg (by simp)]
   split
   ·exact ⟨_,_,rfl,.inr (.inl rfl)⟩
   ·split
    ·exact ⟨_,_,rfl,.inr (.inl rfl)⟩
    ·obtain ⟨k,h1,h2⟩:=qgw hs h id
     rw [h1,qa,hs,qa]
     rcases h2 with ⟨g1,g2,g3⟩ | ⟨g1,g2⟩
     ·rw [if_pos g1]
      exact ⟨_,_,rfl,.inl ⟨rfl,rfl,g1,g2,by omega,by omega,g3⟩⟩
     ·rw [if_neg (by omega)]
      exact ⟨_,_,rfl,.inr (.inr rfl)⟩
 rw [M18,hs,qa,qD h.lg,qa]
 cases hd:S.down_ with
 | true=>rw [if_pos rfl];exact ⟨_,_,rfl,.inr (.inl ⟨rfl,rfl⟩)⟩
 | false =>
  rw [if_neg (by simp)]
  have fin:∀ b,∃ k e,qbn item s id T X b=some (k,e)∧((e=0∧false=false∧0≤k∧k∈S.active_∧0≤item∧item < 20∧∃ t,idx X k=some t∧t.id_=id)∨(e=13∧false=true)∨e=1∨e=6):=fun b=>by
   obtain ⟨k,e,g1,g2⟩:=hb b
   refine ⟨k,e,g1,?_⟩
   rcases g2 with ⟨g2,_,g3⟩ | g2 | g2
   ·exact .inl ⟨g2,rfl,g3⟩
   ·exact .inr (.inr (.inl g2))
   ·exact .inr (.inr (.inr g2))
  split
  ·exact fin _
  ·split
   ·exact fin _
   ·exact fin _
end
end Go.Proofs.YtdlemoeinjihkaaGreatDoor
end
section
namespace Go.Proofs.YtdlemoeinjihkaaGreatDoor
open Go.S
section
variable {α ρ:Type} {keep:α→Bool} {l0:List α} {z:α}
theorem qiQ {F:Nat→List α→Int→Int→Option ρ} (hl:l0.length≤9223372036854775800) (K:List α→Option ρ)
  (hend:∀ n (l:List α) (i:Nat),l.length=l0.length→F (n+1) l (i:Nat) (l.length:Nat)=qb (cut l (i:Nat) l.length) fun _=>qb (clr l (i:Nat) z) fun l59=>qb (cut l59 0 (i:Nat)) fun l60=>K l60)
  (hstep:∀ n (l:List α) (i j:Nat) (h:j < l.length),l.length=l0.length→l[j]∈l0→F (n+1) l (i:Nat) (j:Nat)=if keep l[j]=true then qb (idx l (i:Nat)) fun _=>qb (upd l (i:Nat) l[j]) fun l67=>qb (i64 ((i:Nat)+1)) fun x68=>qb (i64 ((j:Nat)+1)) fun x69=>F n l67 x68 x69 else qb (i64 ((j:Nat)+1)) fun x70=>F n l (i:Nat) x70) :
  ∀ (r j:Nat),j+r=l0.length→∀ (l:List α) (i:Nat) (n:Nat),r < n→i < j→l.length=l0.length→l.take i=(l0.take j).filter keep→l.drop j=l0.drop j→F n l (i:Nat) (j:Nat)=K (l0.filter keep):=by
 intro r
 induction r with
 | zero =>
  intro j hj l i n hn hij hll ht hd
  obtain ⟨n,rfl⟩:=Nat.exists_eq_add_one.2 hn
  have e:j=l.length:=by omega
  subst e
  have e1:l0.take l.length=l0:=List.take_of_length_le (by omega)
  rw [e1] at ht
  have e2:(l.take i++List.replicate (l.length - i) z).take i=l.take i:=List.take_left' (by rw [List.length_take];omega)
  rw [hend n l i hll,je _ _ (by omega),qa,qgT _ _ _ (by omega),qa,vk _ _ (by rw [List.length_append,List.length_take,List.length_replicate];omega),qa,e2,ht]
 | succ r ih =>
  intro j hj l i n hn hij hll ht hd
  obtain ⟨n,rfl⟩:=Nat.exists_eq_add_one.2 (show 0 < n by omega)
  have h1:j < l.length:=by omega
  have h2:j < l0.length:=by omega
  have e1:l[j]=l0[j]:=by
   have h3:=congrArg List.head? hd
   rw [qo h1,qo h2] at h3
   exact Option.some.inj h3
  have e2:l.drop (j+1)=l0.drop (j+1):=by
   have h3:=congrArg List.tail hd
   rw [qo h1,qo h2] at h3
   exact h3
  rw [hstep n l i j h1 hll (by rw [e1];exact List.getElem_mem h2),e1]
  by_cases c:keep l0[j]=true
  ·rw [if_pos c,qk (by omega),qa,upd_ok (qk (i:=i) (by omega)),qa,qr i (by omega),qa,qr j (by omega),qa,Int.toNat_natCast]
   refine ih (j+1) (by omega) _ (i+1) n (by omega) (by omega) (by simpa using hll) ?_ ?_
   ·rw [qs (by simp;omega),List.getElem_set_self,List.take_set_of_le (Nat.le_refl _),ht,qs h2,List.filter_append]
    simp [c]
   ·rw [List.drop_set_of_lt (by omega),e2]
  ·rw [if_neg c,qr j (by omega),qa]
   refine ih (j+1) (by omega) l i n (by omega) (by omega) hll ?_ e2
   rw [ht,qs h2,List.filter_append]
   simp [c]
theorem qgJ {F1:Nat→Int→Option ρ} {F:Nat→List α→Int→Int→Option ρ} (hl:l0.length≤9223372036854775800) (K:List α→Option ρ)
  (hend:∀ n (l:List α) (i:Nat),l.length=l0.length→F (n+1) l (i:Nat) (l.length:Nat)=qb (cut l (i:Nat) l.length) fun _=>qb (clr l (i:Nat) z) fun l59=>qb (cut l59 0 (i:Nat)) fun l60=>K l60)
  (hstep:∀ n (l:List α) (i j:Nat) (h:j < l.length),l.length=l0.length→l[j]∈l0→F (n+1) l (i:Nat) (j:Nat)=if keep l[j]=true then qb (idx l (i:Nat)) fun _=>qb (upd l (i:Nat) l[j]) fun l67=>qb (i64 ((i:Nat)+1)) fun x68=>qb (i64 ((j:Nat)+1)) fun x69=>F n l67 x68 x69 else qb (i64 ((j:Nat)+1)) fun x70=>F n l (i:Nat) x70)
  (hend1:∀ n,F1 (n+1) (l0.length:Nat)=K l0)
  (hstep1:∀ n i (h:i < l0.length),F1 (n+1) (i:Nat)=if keep l0[i]=true then qb (i64 ((i:Nat)+1)) fun x=>F1 n x else qb (i64 ((i:Nat)+1)) fun x=>F big l0 (i:Nat) x):F1 big 0=K (l0.filter keep):=by
 have key:∀ (r i:Nat),i+r=l0.length→(∀ q (h:q < l0.length),q < i→keep l0[q]=true)→∀ n,r < n→F1 n (i:Nat)=K (l0.filter keep):=by
  intro r
  induction r with
  | zero =>
   intro i hi hk n hn
   obtain ⟨n,rfl⟩:=Nat.exists_eq_add_one.2 hn
   obtain rfl:i=l0.length:=by omega
   rw [hend1,List.filter_eq_self.2]
   intro x hx
   obtain ⟨q,hq,rfl⟩:=List.getElem_of_mem hx
   exact hk q hq hq
  | succ r ih =>
   intro i hi hk n hn
   obtain ⟨n,rfl⟩:=Nat.exists_eq_add_one.2 (show 0 < n by omega)
   have h1:i < l0.length:=by omega
   rw [hstep1 n i h1]
   have htk:l0.take i=(l0.take i).filter keep:=by
    rw [List.filter_eq_self.2]
    intro x hx
    obtain ⟨q,hq,rfl⟩:=List.getElem_of_mem hx
    rw [List.length_take] at hq
    rw [List.getElem_take]
    exact hk q (by omega) (by omega)
   by_cases c:keep l0[i]=true
   ·rw [if_pos c,qr i (by omega),qa]
    refine ih (i+1) (by omega) (fun q hq hqi=>?_) n (by omega)
    by_cases e:q=i
    ·subst e;exact c
    ·exact hk q hq (by omega)
   ·rw [if_neg c,qr i (by omega),qa]
    refine qiQ hl K hend hstep r (i+1) (by omega) l0 i big (by rw [qP];omega) (by omega) rfl ?_ rfl
    rw [qs h1,List.filter_append,← htk]
    simp [c]
 exact key l0.length 0 (by omega) (fun q hq h=>by omega) big (by rw [qP];omega)
theorem vg {F:Nat→List α→Int→Option ρ} {K:List α→Option ρ} (f:α→α) (hl:l0.length≤1000)
  (hend:∀ n (g:List α),g.length=l0.length→F (n+1) g (l0.length:Nat)=K g)
  (hstep:∀ n (g:List α) (i:Nat) (h:i < l0.length),g.length=l0.length→idx g (i:Nat)=some l0[i]→F (n+1) g (i:Nat)=qb (i64 ((i:Nat)+1)) fun x=>F n (g.set i (f l0[i])) x):F big l0 0=K (l0.map f):=by
 have key:∀ (r i:Nat),i+r=l0.length→∀ n,r < n→F n ((l0.take i).map f++l0.drop i) (i:Nat)=K (l0.map f):=by
  intro r
  induction r with
  | zero =>
   intro i hi n hn
   obtain ⟨n,rfl⟩:=Nat.exists_eq_add_one.2 hn
   obtain rfl:i=l0.length:=by omega
   rw [hend _ _ (by simp)]
   simp
  | succ r ih =>
   intro i hi n hn
   obtain ⟨n,rfl⟩:=Nat.exists_eq_add_one.2 (show 0 < n by omega)
   have h1:i < l0.length:=by omega
   have hli:((l0.take i).map f).length=i:=by simp;omega
   rw [hstep _ _ i h1 (by simp;omega) (by rw [z6,List.getElem?_append_right (by omega),hli,Nat.sub_self,List.getElem?_drop,Nat.add_zero,List.getElem?_eq_getElem h1]),qr i (by omega),qa]
   have e:((l0.take i).map f++l0.drop i).set i (f l0[i])=(l0.take (i+1)).map f++l0.drop (i+1):=by
    rw [List.set_append_right _ _ (by omega),hli,Nat.sub_self,qo h1,List.set_cons_zero,qs h1,List.map_append,List.append_assoc]
    rfl
   rw [e]
   exact ih (i+1) (by omega) n (by omega)
 have:=key l0.length 0 (by omega) big (by rw [qP];omega)
 simpa using this
end
def incV (v:TVersion):TVersion:=⟨v.At+1,v.Text⟩
def decV (v:TVersion):TVersion:=⟨v.At - 1,v.Text⟩
def left (x:List TVersion) (b:List Int) (now:Int):List TVersion:=if 1 < x.length then (jS (x.map incV) (kr (x.map incV) (b.map (·+1)++[now+1])) x.length 0).map decV else x
theorem ku {x:List TVersion} (h:xg x):xg (x.map incV):=fun i hi=>by
 have h2:i+1 < x.length:=by simpa using hi
 have:=h i h2
 rw [List.getElem_map,List.getElem_map]
 simp only [incV];omega
theorem zN {x:List TVersion}:xg x↔x.Pairwise (fun a b=>a.At < b.At):=by
 constructor
 ·intro h
  rw [List.pairwise_iff_getElem]
  intro i j hi hj hij
  have h1:=kf h (show i+1≤j by omega) hj
  have h2:=h i (by omega)
  omega
 ·intro h i hi
  exact List.pairwise_iff_getElem.1 h i (i+1) (by omega) hi (by omega)
theorem qb1 {x:List TVersion} {b:List Int} {now:Int} (hv:Vs now x) (hb:b.length≤12) (hn:0≤now):Vs now (left x b now)∧(left x b now).length≤13∧(left x b now).getLast?.map (·.Text)=x.getLast?.map (·.Text):=by
 unfold left
 by_cases c:1 < x.length
 ·rw [if_pos c]
  have hxl:(x.map incV).length=x.length:=by simp
  have hs:=ku hv.s
  have hsub:=vj (x.map incV) (kr (x.map incV) (b.map (·+1)++[now+1])) x.length 0
  rw [List.drop_zero] at hsub
  have hlastc:kr (x.map incV) (b.map (·+1)++[now+1]) ((x.map incV).length - 1)=true:=by
   refine decide_eq_true ⟨now+1,by simp,?_⟩
   have h1:x.length - 1 < (x.map incV).length:=by omega
   have h2:=hv.b x[x.length - 1] (List.getElem_mem (by omega))
   rw [show (x.map incV).length=(x.length - 1)+1 by omega,vh _ h1,if_pos (by rw [List.getElem_map];simp only [incV];omega)]
   omega
  have hlast:=qaX (x.map incV) (kr (x.map incV) (b.map (·+1)++[now+1])) (by omega) hlastc x.length 0 (by omega) (by omega)
  have hcnt:=kq (x.map incV) (fun s=>lst (x.map incV) s (x.map incV).length) x.length 0 (b.map (·+1)++[now+1])
  have hcnt2:(jS (x.map incV) (kr (x.map incV) (b.map (·+1)++[now+1])) x.length 0).length≤13:=by
   refine Nat.le_trans hcnt ?_
   simp;omega
  generalize hkk:jS (x.map incV) (kr (x.map incV) (b.map (·+1)++[now+1])) x.length 0=K at hsub hlast hcnt2
  have hgl:(K.map decV).getLast?.map (·.Text)=x.getLast?.map (·.Text):=by
   rw [List.getLast?_map,hlast,List.getLast?_map,Option.map_map,Option.map_map]
   rfl
  refine ⟨⟨?_,?_,?_,by simp;omega⟩,by simpa using hcnt2,hgl⟩
  ·intro h0
   rw [h0] at hgl
   cases hx:x.getLast? with
   | none =>
    rw [List.getLast?_eq_none_iff] at hx
    exact hv.ne hx
   | some v=>rw [hx] at hgl;simp at hgl
  ·rw [zN,List.pairwise_map]
   have:=(zN.1 hs).sublist hsub
   exact this.imp fun h=>by simp only [decV];omega
  ·intro v hv'
   obtain ⟨u,hu,rfl⟩:=List.mem_map.1 hv'
   obtain ⟨w,hw,rfl⟩:=List.mem_map.1 (hsub.subset hu)
   have:=hv.b w hw
   refine ⟨?_,?_,this.2.2⟩
   ·show 0≤w.At+1 - 1;omega
   ·show w.At+1 - 1≤now;omega
 ·rw [if_neg c]
  exact ⟨hv,by omega,rfl⟩
section
variable {T:List TStore} {X:List Ttx} {s:Int} {S:TStore}
theorem qix {x:List TVersion} {b:List Int} (hv:Vs S.now_ x) (hc:1 < x.length) (hb:b.length≤12) (hb2:∀ k∈b,0≤k∧k≤S.now_) (hn:0≤S.now_) (hn1:S.now_≤4611686018427387904) (g:List (List TVersion)) (i:Int) (go:List Int→Int→List (List TVersion)→Option (List TStore)) :
  wB x b S g i go big x 0=qhA g i go b (left x b S.now_):=by
 have hxn:=hv.n
 rw [left,if_pos hc]
 rw [vg (l0:=x) (F:=fun n g' i'=>wB x b S g i go n g' i') (K:=fun g'=>qhz b S g i go g') incV (by omega)
  (fun n g' hg'=>by rw [wB,qdG,if_neg (by omega)])
  (fun n g' j hj hg' hx=>by
   have hvb:=hv.b x[j] (List.getElem_mem hj)
   rw [wB,qdG,if_pos (by omega),hx,qa,qN (by omega) (by omega),qa,qa,upd_ok hx,qa,Int.toNat_natCast];rfl)]
 rw [qhz]
 rw [vg (l0:=b) (F:=fun n g' i'=>qaa b S (x.map incV) g i go n g' i') (K:=fun g'=>qhy S (x.map incV) g i go g') (·+1) (by omega)
  (fun n g' hg'=>by rw [qaa,qdH,if_neg (by omega)])
  (fun n g' j hj hg' hx=>by
   have hvb:=hb2 b[j] (List.getElem_mem hj)
   rw [qaa,qdH,if_pos (by omega),hx,qa,qN (by omega) (by omega),qa,qa,upd_ok hx,qa,Int.toNat_natCast])]
 have hkeep:=qk0 (l:=x.map incV) (a:=b.map (·+1)) (now:=S.now_+1) (by omega) (by simp;omega) (by simp;omega) (fun k hk=>by
   obtain ⟨u,hu,rfl⟩:=List.mem_map.1 hk
   have:=hb2 u hu
   omega) (ku hv.s) (fun v hv'=>by
   obtain ⟨w,hw,rfl⟩:=List.mem_map.1 hv'
   have:=hv.b w hw
   simp only [incV]
   omega)
 have hsub:=vj (x.map incV) (kr (x.map incV) (b.map (·+1)++[S.now_+1])) x.length 0
 rw [List.length_map] at hkeep
 rw [qhy,qN (by omega) (by omega),qa,hkeep,qm]
 generalize jS (x.map incV) (kr (x.map incV) (b.map (·+1)++[S.now_+1])) x.length 0=K at hsub
 have hKl:K.length≤100:=by
  have:=hsub.length_le
  simp at this
  omega
 rw [vg (l0:=K) (F:=fun n g' i'=>qab K (b.map (·+1)) g i go n g' i') (K:=fun g'=>qhx (b.map (·+1)) g i go g') decV (by omega)
  (fun n g' hg'=>by rw [qab,qdI,if_neg (by omega)])
  (fun n g' j hj hg' hx=>by
   have hm:K[j]∈x.map incV:=by
    have:=hsub.subset (List.getElem_mem hj)
    rwa [List.drop_zero] at this
   obtain ⟨w,hw,hwe⟩:=List.mem_map.1 hm
   have hvb:=hv.b w hw
   have hat:K[j].At=w.At+1:=by rw [← hwe];rfl
   rw [qab,qdI,if_pos (by omega),hx,qa,qN (by omega) (by omega),qa,qa,upd_ok hx,qa,Int.toNat_natCast];rfl)]
 rw [qhx]
 rw [vg (l0:=b.map (·+1)) (F:=fun n g' i'=>qac (b.map (·+1)) g i go (K.map decV) n g' i') (K:=fun g'=>qhw g i go (K.map decV) g') (· - 1) (by simp;omega)
  (fun n g' hg'=>by rw [qac,qdJ,if_neg (by omega)])
  (fun n g' j hj hg' hx=>by
   have hj':j < b.length:=by simpa using hj
   have hvb:=hb2 b[j] (List.getElem_mem hj')
   have hat:(b.map (·+1))[j]=b[j]+1:=by rw [List.getElem_map]
   rw [qac,qdJ,if_pos (by omega),hx,qa,qN (by omega) (by omega),qa,qa,upd_ok hx,qa,Int.toNat_natCast])]
 rw [qhw]
 congr 1
 rw [List.map_map]
 have:((fun x:Int=>x - 1) ∘ fun x=>x+1)=id:=funext fun x=>by simp only [Function.comp_apply,id];omega
 rw [this,List.map_id]
end
end Go.Proofs.YtdlemoeinjihkaaGreatDoor
end
section
namespace Go.Proofs.YtdlemoeinjihkaaGreatDoor
open Go.S
section
variable {T:List TStore} {X:List Ttx} {s:Int} {S:TStore}
structure qki (S:TStore) (X:List Ttx) (a:Int):Prop where
 lg:S.logs_.length=2
 it:S.items_.length=20
 vs:∀ l∈S.items_,Vs S.now_ l
 n0:0≤S.now_
 n1:S.now_≤2513169434000
 ac:Txs X S.now_ S.active_
 a12:S.active_.length≤12
 ov:Txs X S.now_ S.over_
 ol:S.over_.length≤2513169434900
 a:∃ t,idx X a=some t
theorem qeC (h:∀ l∈S.items_,Vs S.now_ l) (hit:S.items_.length=20) (hs:idx T s=some S) (hn0:0≤S.now_) (hn1:S.now_≤4611686018427387904) {b:List Int} (hb:b.length≤12) (hb2:∀ k∈b,0≤k∧k≤S.now_) (ac ov:List Int):∀ (r i:Nat),i+r=20→∀ n,r < n →
  qae S T s ac ov n b (i:Int) ((S.items_.take i).map (fun x=>left x b S.now_)++S.items_.drop i)=some (T.set s.toNat ⟨S.logs_,S.half_,S.gen_,S.down_,S.now_,S.items_.map (fun x=>left x b S.now_),ac,ov⟩):=by
 intro r
 induction r with
 | zero =>
  intro i hi n hn
  obtain ⟨n,rfl⟩:=Nat.exists_eq_add_one.2 hn
  obtain rfl:i=20:=by omega
  rw [qae,qdK,if_neg (by omega),upd_ok hs,qa,List.take_of_length_le (by omega),List.drop_eq_nil_of_le (by omega),List.append_nil]
 | succ r ih =>
  intro i hi n hn
  obtain ⟨n,rfl⟩:=Nat.exists_eq_add_one.2 (show 0 < n by omega)
  have h1:i < S.items_.length:=by omega
  have hv:=h S.items_[i] (List.getElem_mem h1)
  have hli:((S.items_.take i).map (fun x=>left x b S.now_)).length=i:=by simp;omega
  have hx:idx ((S.items_.take i).map (fun x=>left x b S.now_)++S.items_.drop i) (i:Int)=some S.items_[i]:=by
   rw [z6,List.getElem?_append_right (by omega),hli,Nat.sub_self,List.getElem?_drop,Nat.add_zero,List.getElem?_eq_getElem h1]
  have e:((S.items_.take i).map (fun x=>left x b S.now_)++S.items_.drop i).set i (left S.items_[i] b S.now_)=(S.items_.take (i+1)).map (fun x=>left x b S.now_)++S.items_.drop (i+1):=by
   rw [List.set_append_right _ _ (by omega),hli,Nat.sub_self,qo h1,List.set_cons_zero,qs h1,List.map_append,List.append_assoc]
   rfl
  rw [qae,qdK,if_pos (by omega),qb4 h1 hit,qa]
  by_cases c:1 < S.items_[i].length
  ·have hvn:=hv.n
   rw [if_pos (by omega),M85,qH (by simp;omega),qa,qa,List.nil_append,qix hv c hb hb2 hn0 hn1,qhA]
   have hxA:zD 20 ((S.items_.take i).map (fun x=>left x b S.now_)++S.items_.drop i) (i:Int)=some S.items_[i]:=by
    rw [zD,if_pos (by omega)];exact hx
   rw [hxA,qa,upd_ok hx,qa,qr i (by omega),qa,Int.toNat_natCast,e]
   exact ih (i+1) (by omega) n (by omega)
  ·have e2:left S.items_[i] b S.now_=S.items_[i]:=if_neg c
   rw [if_neg (by omega),qr i (by omega),qa]
   have e3:((S.items_.take i).map (fun x=>left x b S.now_)++S.items_.drop i).set i (left S.items_[i] b S.now_)=(S.items_.take i).map (fun x=>left x b S.now_)++S.items_.drop i:=by
    rw [e2]
    have:=zS hx
    rwa [Int.toNat_natCast] at this
   rw [← e3,e]
   exact ih (i+1) (by omega) n (by omega)
def kX (X:List Ttx) (x:Int):Ttx:=X.getD x.toNat default
theorem xj {x:Int} {t:Ttx} (h:idx X x=some t):kX X x=t:=by
 obtain ⟨h0,h1,h2⟩:=qe h
 unfold kX
 rw [List.getD_eq_getElem?_getD,h2];rfl
theorem qkL {L:List Int} {b:List Int} {f:Int} (h:Txs X S.now_ S.over_) (hol:S.over_.length≤2513169434900):qeX S X T s L b f=qcl S T s L b (S.over_.filter fun x=>!(decide ((kX X x).at_≤f))):=by
 rw [qeX]
 refine qgJ (F1:=fun n i=>y8 S X T s L b f n i) (F:=fun n l i j=>y9 X f S T s L b n l i j) (z:=-1) (by omega) (K:=fun l=>qcl S T s L b l) ?_ ?_ ?_ ?_
 ·intro n l i hl
  simp only [y9,qdF]
  rw [if_neg (by omega),qdS]
 ·intro n l i j hj hl hm
  obtain ⟨t,ht,_⟩:=h _ hm
  simp only [y9,qdF]
  rw [if_pos (by omega),qk hj,qa,ht,qa,qdR,xj ht]
  by_cases c:t.at_≤f
  ·rw [if_pos (by simpa using c),if_neg (by simpa using c)]
  ·rw [if_neg (by simpa using c),if_pos (by simpa using c)]
 ·intro n
  simp only [y8,qdE]
  rw [if_neg (by omega),qdQ,qeW,if_pos rfl]
 ·intro n i hi
  obtain ⟨t,ht,_⟩:=h _ (List.getElem_mem hi)
  simp only [y8,qdE]
  rw [if_pos (by omega),qk hi,qa,ht,qa,qdP,xj ht]
  by_cases c:t.at_≤f
  ·rw [if_pos (by simpa using c),if_neg (by simpa using c),qeW,if_neg (by omega)]
  ·rw [if_neg (by simpa using c),if_pos (by simpa using c)]
end
end Go.Proofs.YtdlemoeinjihkaaGreatDoor
end
section
namespace Go.Proofs.YtdlemoeinjihkaaGreatDoor
open Go.S
def Mt (a b:List Int):Prop:=∃ k,k∈a∧k∈b
theorem qkR (a b:List Int) (ha:a.length≤1000) (hb:b.length≤1000):∀ (r i:Nat),i+r=a.length→∀ n,r < n→∃ x,yW a b n (i:Int)=some x∧(x=true↔Mt (a.drop i) b):=by
 intro r
 induction r with
 | zero =>
  intro i hi n hn
  obtain ⟨n,rfl⟩:=Nat.exists_eq_add_one.2 hn
  rw [yW,qdm,if_neg (by omega),List.drop_eq_nil_of_le (by omega)]
  exact ⟨_,rfl,by simp [Mt]⟩
 | succ r ih =>
  intro i hi n hn
  obtain ⟨n,rfl⟩:=Nat.exists_eq_add_one.2 (show 0 < n by omega)
  have h1:i < a.length:=by omega
  rw [yW,qdm,if_pos (by omega),qk h1,qa,qcV _ hb,qa,qi8,qgH h1]
  by_cases c:a[i]∈b
  ·rw [if_pos (by simpa using c)]
   exact ⟨_,rfl,⟨fun _=>⟨a[i],List.mem_cons_self,c⟩,fun _=>by simp⟩⟩
  ·rw [if_neg (by simpa using c),qr i (by omega),qa]
   obtain ⟨x,g1,g2⟩:=ih (i+1) (by omega) n (by omega)
   refine ⟨x,g1,g2.trans ⟨?_,?_⟩⟩
   ·rintro ⟨k,h1,h2⟩
    exact ⟨k,List.mem_cons_of_mem _ h1,h2⟩
   ·rintro ⟨k,h1,h2⟩
    rcases List.mem_cons.1 h1 with rfl | h1
    ·exact absurd h2 c
    ·exact ⟨k,h1,h2⟩
theorem qbX {a b:List Int} (ha:a.length≤1000) (hb:b.length≤1000):∃ x,M43 a b=some x∧(x=true↔Mt a b):=by
 obtain ⟨x,h,h2⟩:=qkR a b ha hb a.length 0 (by omega) big (by rw [qP];omega)
 exact ⟨x,by simpa [M43] using h,by simpa using h2⟩
structure qnh (t u:Ttx):Prop where
 w : ¬Mt t.writes_ u.writes_
 a:Mt t.reads_ u.writes_→u.out_=false∧¬Mt u.reads_ t.writes_
 b:Mt u.reads_ t.writes_→u.in_=false
section
variable {T:List TStore} {X:List Ttx} {s:Int} {S:TStore}
structure May (X:List Ttx) (t:Ttx) (L:List Int) (ins outs:List Int) (i0 o0:Bool):Prop where
 fine:∀ y∈L,∀ u,idx X y=some u→t.from_ < u.at_→qnh t u
 ins:∀ y∈L,∀ u,idx X y=some u→t.from_ < u.at_→Mt t.reads_ u.writes_→y∈ins
 outs:∀ y∈L,∀ u,idx X y=some u→t.from_ < u.at_→Mt u.reads_ t.writes_→y∈outs
 both:(i0=true∨∃ y∈L,∃ u,idx X y=some u∧t.from_ < u.at_∧Mt u.reads_ t.writes_)→(o0=true∨∃ y∈L,∃ u,idx X y=some u∧t.from_ < u.at_∧Mt t.reads_ u.writes_)→False
abbrev qpV:=Option (List Int×List Int×Bool)
def Out (S:TStore) (X:List Ttx) (t:Ttx) (L ins outs:List Int) (i0 o0:Bool) (r:qpV):Prop:=∃ ins' outs' b,r=some (ins',outs',b)∧(∀ x∈ins',x∈S.over_)∧(∀ x∈outs',x∈S.over_)∧ins'.length≤S.over_.length∧outs'.length≤S.over_.length∧(b=true→May X t L ins' outs' i0 o0∧(∀ x∈ins,x∈ins')∧∀ x∈outs,x∈outs')
theorem Out.no {t:Ttx} {L ins outs:List Int} {i0 o0:Bool}:Out S X t L ins outs i0 o0 (some ([],[],false)):=⟨[],[],false,rfl,by simp,by simp,by simp,by simp,fun h=>by cases h⟩
theorem qmA (hs:idx T s=some S) (h:StOk S X) {a:Int} {t:Ttx} (ha:idx X a=some t) (htk:TxOk S.now_ t) (hao:a ∉ S.over_):∀ (r i:Nat),i+r=S.over_.length→∀ n,r < n→∀ (ins outs:List Int) (b1 b2:Bool),(∀ x∈ins,x∈S.over_)→(∀ x∈outs,x∈S.over_)→ins.length≤i→outs.length≤i →
  Out S X t (S.over_.drop i) ins outs b1 b2 (jk S X a n ins outs b1 b2 (i:Int)):=by
 have hol:=h.ol
 have hn1:=h.n1
 intro r
 induction r with
 | zero =>
  intro i hi n hn ins outs b1 b2 h1 h2 h3 h4
  obtain ⟨n,rfl⟩:=Nat.exists_eq_add_one.2 hn
  rw [jk,qdT,if_neg (by omega),qjl,List.drop_eq_nil_of_le (by omega)]
  have hm:∀ b:Bool,(b=true→¬(b1=true∧b2=true))→Out S X t [] ins outs b1 b2 (some (ins,outs,b)):=fun b hb=>⟨_,_,_,rfl,h1,h2,by omega,by omega,fun e=>⟨⟨by simp,by simp,by simp,fun p q=>by
   rcases p with p | ⟨_,p,_⟩
   ·rcases q with q | ⟨_,q,_⟩
    ·exact hb e ⟨p,q⟩
    ·cases q
   ·cases p⟩,fun _ h=>h,fun _ h=>h⟩⟩
  split
  ·exact hm _ fun e=>by rintro ⟨_,q⟩;rw [q] at e;cases e
  ·rename_i c
   exact hm _ fun e=>by rintro ⟨q,_⟩;exact c q
 | succ r ih =>
  intro i hi n hn ins outs b1 b2 h1 h2 h3 h4
  obtain ⟨n,rfl⟩:=Nat.exists_eq_add_one.2 (show 0 < n by omega)
  have hio:i < S.over_.length:=by omega
  obtain ⟨u,hu,huk⟩:=h.ov S.over_[i] (List.getElem_mem hio)
  have hne:a≠S.over_[i]:=fun e=>hao (by rw [e];exact List.getElem_mem hio)
  rw [jk,qdT,if_pos (by omega),qk hio,qa,hu,qa,ha,qa,qjX hne,qa]
  have hself:∀ y u',y=S.over_[i]→idx X y=some u'→u'=u:=fun y u' e hy=>by rw [e,hu] at hy;exact (Option.some.inj hy).symm
  have next:∀ (ins' outs':List Int) (c1 c2:Bool),(∀ x∈ins',x∈S.over_)→(∀ x∈outs',x∈S.over_)→ins'.length≤i+1→outs'.length≤i+1→(∀ x∈ins,x∈ins')→(∀ x∈outs,x∈outs') →
    (t.from_ < u.at_→qnh t u)→(t.from_ < u.at_→Mt t.reads_ u.writes_→S.over_[i]∈ins')→(t.from_ < u.at_→Mt u.reads_ t.writes_→S.over_[i]∈outs') →
    (b1=true∨(t.from_ < u.at_∧Mt u.reads_ t.writes_)→c1=true)→(b2=true∨(t.from_ < u.at_∧Mt t.reads_ u.writes_)→c2=true) →
    Out S X t (S.over_.drop i) ins outs b1 b2 (qb (i64 ((i:Int)+1)) fun x=>jk S X a n ins' outs' c1 c2 x):=by
   intro ins' outs' c1 c2 g1 g2 g3 g4 g5 g6 g7 g8 g9 g10 g11
   rw [qr i (by omega),qa]
   obtain ⟨i2,o2,b,e1,e2,e3,e4,e5,e6⟩:=ih (i+1) (by omega) n (by omega) ins' outs' c1 c2 g1 g2 g3 g4
   refine ⟨i2,o2,b,e1,e2,e3,e4,e5,fun hb=>?_⟩
   obtain ⟨m,k1,k2⟩:=e6 hb
   rw [qgH hio]
   refine ⟨⟨fun y hy v hv hl=>?_,fun y hy v hv hl hm=>?_,fun y hy v hv hl hm=>?_,fun p q=>?_⟩,fun x hx=>k1 x (g5 x hx),fun x hx=>k2 x (g6 x hx)⟩
   ·rcases List.mem_cons.1 hy with e | hy
    ·obtain rfl:=hself y v e hv;exact g7 hl
    ·exact m.fine y hy v hv hl
   ·rcases List.mem_cons.1 hy with e | hy
    ·obtain rfl:=hself y v e hv;rw [e];exact k1 _ (g8 hl hm)
    ·exact m.ins y hy v hv hl hm
   ·rcases List.mem_cons.1 hy with e | hy
    ·obtain rfl:=hself y v e hv;rw [e];exact k2 _ (g9 hl hm)
    ·exact m.outs y hy v hv hl hm
   ·refine m.both ?_ ?_
    ·rcases p with p | ⟨y,hy,v,hv,hl,hm⟩
     ·exact .inl (g10 (.inl p))
     ·rcases List.mem_cons.1 hy with e | hy
      ·obtain rfl:=hself y v e hv;exact .inl (g10 (.inr ⟨hl,hm⟩))
      ·exact .inr ⟨y,hy,v,hv,hl,hm⟩
    ·rcases q with p | ⟨y,hy,v,hv,hl,hm⟩
     ·exact .inl (g11 (.inl p))
     ·rcases List.mem_cons.1 hy with e | hy
      ·obtain rfl:=hself y v e hv;exact .inl (g11 (.inr ⟨hl,hm⟩))
      ·exact .inr ⟨y,hy,v,hv,hl,hm⟩
  have no:Out S X t (S.over_.drop i) ins outs b1 b2 (some ([],[],false)):=.no
  by_cases hat:u.at_≤t.from_
  ·rw [if_pos hat]
   exact next ins outs b1 b2 h1 h2 (by omega) (by omega) (fun _ h=>h) (fun _ h=>h) (fun q=>absurd q (by omega)) (fun q=>absurd q (by omega)) (fun q=>absurd q (by omega)) (fun q=>q.elim id fun q=>absurd q.1 (by omega)) (fun q=>q.elim id fun q=>absurd q.1 (by omega))
  ·rw [if_neg hat]
   have hlt:t.from_ < u.at_:=by omega
   have hin:S.over_[i]∈S.over_:=List.getElem_mem hio
   have e1:∀ x∈ins++[S.over_[i]],x∈S.over_:=fun x hx=>by
    rcases List.mem_append.1 hx with hx | hx
    ·exact h1 x hx
    ·rw [List.mem_singleton.1 hx];exact hin
   have e2:∀ x∈outs++[S.over_[i]],x∈S.over_:=fun x hx=>by
    rcases List.mem_append.1 hx with hx | hx
    ·exact h2 x hx
    ·rw [List.mem_singleton.1 hx];exact hin
   have k2:∀ (A B:Bool),(A=true↔Mt t.reads_ u.writes_)→(B=true↔Mt u.reads_ t.writes_)→Out S X t (S.over_.drop i) ins outs b1 b2 (qbm X a S.over_[i] ins outs b2 b1 (i:Int) (jk S X a n) A B):=by
    intro A B hA hB
    obtain ⟨W,hW,hW2⟩:=qbX (a:=t.writes_) (b:=u.writes_) (by have:=htk.w.1;omega) (by have:=huk.w.1;omega)
    rw [qbm,ha,qa,hu,qa,hW,qa,qD huk.t20,qa]
    have k5:qnh t u→∀ (ins' outs':List Int),(∀ x∈ins',x∈S.over_)→(∀ x∈outs',x∈S.over_)→ins'.length≤i+1→outs'.length≤i+1→(∀ x∈ins,x∈ins')→(∀ x∈outs,x∈outs')→(A=true→S.over_[i]∈ins')→(B=true→S.over_[i]∈outs') →
      Out S X t (S.over_.drop i) ins outs b1 b2 (qe1 b2 b1 (i:Int) (jk S X a n) ins' B A outs'):=by
     intro hf ins' outs' q1 q2 q3 q4 q5 q6 q7 q8
     have fin:∀ c1 c2:Bool,(b1=true∨B=true→c1=true)→(b2=true∨A=true→c2=true)→Out S X t (S.over_.drop i) ins outs b1 b2 (qb (i64 ((i:Int)+1)) fun x=>jk S X a n ins' outs' c1 c2 x):=fun c1 c2 p1 p2 =>
      next ins' outs' c1 c2 q1 q2 q3 q4 q5 q6 (fun _=>hf) (fun _ hm=>q7 (hA.2 hm)) (fun _ hm=>q8 (hB.2 hm)) (fun q=>p1 (q.imp id fun q=>hB.2 q.2)) (fun q=>p2 (q.imp id fun q=>hA.2 q.2))
     simp only [qe1,qe0,qeZ,qeY]
     cases b1 <;> cases b2 <;> cases A <;> cases B <;> simp only [if_true,Bool.false_eq_true,if_false] <;> exact fin _ _ (by simp) (by simp)
    have k3:qnh t u→Out S X t (S.over_.drop i) ins outs b1 b2 (qhC A ins S.over_[i] B outs b2 b1 (i:Int) (jk S X a n)):=by
     intro hf
     simp only [qhC,qhB]
     rw [qH (by simp;omega),qa,qH (by simp;omega)]
     simp only [qa]
     have a1:∀ x∈ins,x∈ins++[S.over_[i]]:=fun x hx=>List.mem_append_left _ hx
     have a2:∀ x∈outs,x∈outs++[S.over_[i]]:=fun x hx=>List.mem_append_left _ hx
     split
     ·split
      ·exact k5 hf _ _ e1 e2 (by simp;omega) (by simp;omega) a1 a2 (fun _=>by simp) (fun _=>by simp)
      ·rename_i hb
       exact k5 hf _ _ e1 h2 (by simp;omega) (by omega) a1 (fun _ h=>h) (fun _=>by simp) (fun h=>absurd h hb)
     ·rename_i hna
      split
      ·exact k5 hf _ _ h1 e2 (by omega) (by simp;omega) (fun _ h=>h) a2 (fun h=>absurd h hna) (fun _=>by simp)
      ·rename_i hb
       exact k5 hf _ _ h1 h2 (by omega) (by omega) (fun _ h=>h) (fun _ h=>h) (fun h=>absurd h hna) (fun h=>absurd h hb)
    have k9:(Mt t.reads_ u.writes_→u.out_=false∧¬Mt u.reads_ t.writes_)→¬Mt t.writes_ u.writes_→Out S X t (S.over_.drop i) ins outs b1 b2 (wb B u A ins S.over_[i] outs b2 b1 (i:Int) (jk S X a n) false):=by
     intro f1 f2
     rw [wb,qD huk.t20,qa]
     simp only [Bool.false_eq_true,if_false]
     split
     ·rename_i hb
      split
      ·rw [kN,if_pos rfl];exact no
      ·rename_i hi
       rw [kN,if_neg (by simp)]
       exact k3 ⟨f2,f1,fun _=>by simpa using hi⟩
     ·rename_i hb
      rw [kN,if_neg (by simp)]
      exact k3 ⟨f2,f1,fun hm=>absurd (hB.2 hm) hb⟩
    have k9t:Out S X t (S.over_.drop i) ins outs b1 b2 (wb B u A ins S.over_[i] outs b2 b1 (i:Int) (jk S X a n) true):=by
     rw [wb,if_pos rfl];exact no
    split
    ·exact k9t
    ·rename_i hw
     have hw' : ¬Mt t.writes_ u.writes_:=fun q=>hw (hW2.2 q)
     split
     ·rename_i hA1
      split
      ·exact k9t
      ·rename_i ho
       split
       ·exact k9t
       ·rename_i hB1
        exact k9 (fun _=>⟨by simpa using ho,fun q=>hB1 (hB.2 q)⟩) hw'
     ·rename_i hA1
      exact k9 (fun q=>absurd (hA.2 q) hA1) hw'
   obtain ⟨A,hA1,hA2⟩:=qbX (a:=t.reads_) (b:=u.writes_) (by have:=htk.r.1;omega) (by have:=huk.w.1;omega)
   obtain ⟨B,hB1,hB2⟩:=qbX (a:=u.reads_) (b:=t.writes_) (by have:=huk.r.1;omega) (by have:=htk.w.1;omega)
   rw [hA1,qa,hB1]
   simp only [qa]
   cases A <;> cases B <;> simp only [if_true,Bool.false_eq_true,if_false] <;> exact k2 _ _ hA2 hB2
theorem qmz (hs:idx T s=some S) (h:StOk S X) {a:Int} {t:Ttx} (ha:idx X a=some t) (htk:TxOk S.now_ t) (hao:a ∉ S.over_):∃ ins outs b,M22 s a T X=some (ins,outs,b)∧(∀ x∈ins,x∈S.over_)∧(∀ x∈outs,x∈S.over_)∧ins.length≤S.over_.length∧outs.length≤S.over_.length∧(b=true→May X t S.over_ ins outs false false):=by
 have hol:=h.ol
 have hn1:=h.n1
 obtain ⟨i,o,b,e1,e2,e3,e4,e5,e6⟩:=qmA hs h ha htk hao S.over_.length 0 (by omega) big (by rw [qP];omega) [] [] false false (by simp) (by simp) (by simp) (by simp)
 rw [M22,hs,qa,qD h.lg,qa,qD h.it,qa]
 exact ⟨i,o,b,e1,e2,e3,e4,e5,fun hb=>by simpa using (e6 hb).1⟩
end
end Go.Proofs.YtdlemoeinjihkaaGreatDoor
end
section
namespace Go.Proofs.YtdlemoeinjihkaaGreatDoor
open Go.S
def vis (l:List TVersion) (s:Int):List TVersion:=l.filter fun v=>decide (v.At≤s)
def rdv (l:List TVersion) (s:Int):List UInt8:=((vis l s).getLast?.map (·.Text)).getD []
theorem qbY (l:List TVersion) (s:Int):∀ i,i≤l.length→(vis (l.take i) s).getLast?=if lst l s i < 0 then none else l[(lst l s i).toNat]?
 | 0,_=>by simp [vis,lst]
 | i+1,h=>by
  have hi:i < l.length:=by omega
  rw [List.take_succ_eq_append_getElem hi,vh s hi]
  unfold vis
  rw [List.filter_append]
  by_cases c:l[i].At≤s
  ·rw [if_pos c,if_neg (by omega)]
   simp [c]
  ·rw [if_neg c]
   have:=qbY l s i (by omega)
   unfold vis at this
   simp [c,this]
theorem qkF (l:List TVersion) (s:Int) (hl:l.length≤1000):∃ b,M20 l s=some (rdv l s,b):=by
 have h1:=qn9 l s hl l.length 0 (by omega) big (by rw [qP];omega)
 have h2:=qbY l s l.length (Nat.le_refl _)
 rw [List.take_length] at h2
 have h3:=qgj l s l.length
 have e0:lst l s 0=-1:=rfl
 rw [e0,show ((0:Nat):Int)=0 from rfl] at h1
 rw [M20,h1,qhD]
 unfold rdv
 by_cases c:lst l s l.length < 0
 ·rw [if_pos c] at h2 ⊢
  rw [h2]
  exact ⟨false,rfl⟩
 ·rw [if_neg c] at h2 ⊢
  obtain ⟨x,hx⟩:=qaZ (l:=l) (a:=lst l s l.length) (by omega) (by omega)
  rw [h2,(qe hx).2.2,hx,qa]
  exact ⟨true,rfl⟩
theorem qiE {α:Type} {l l':List α} {z:α} (hs:l'.Sublist l) (hz:l.getLast?=some z) (hm:z∈l') (hn:l.Nodup):l'.getLast?=some z:=by
 obtain ⟨l0,rfl⟩:=List.getLast?_eq_some_iff.1 hz
 obtain ⟨a,b,rfl,ha,hb⟩:=List.sublist_append_iff.1 hs
 rw [List.nodup_append] at hn
 have hz0:z ∉ l0:=fun h=>hn.2.2 z h z (List.mem_singleton.2 rfl) rfl
 rcases b with _ | ⟨w,b⟩
 ·rw [List.append_nil] at hm
  exact absurd (ha.subset hm) hz0
 ·have h1:=hb.length_le
  have h2:=hb.subset (List.mem_cons_self (a:=w) (l:=b))
  rw [List.length_cons,List.length_singleton] at h1
  have h3:b=[]:=List.eq_nil_of_length_eq_zero (by omega)
  subst h3
  rw [List.mem_singleton.1 h2]
  simp
theorem qcS (l:List TVersion) (c:Nat→Bool):∀ r i j (h:j < l.length),i≤j→j < i+r→c j=true→l[j]∈jS l c r i
 | 0,i,j,h,h1,h2,_=>by omega
 | r+1,i,j,h,h1,h2,hc=>by
  have hi:i < l.length:=by omega
  rw [xJ c r hi]
  by_cases e:i=j
  ·subst e
   rw [if_pos hc]
   exact List.mem_cons_self
  ·have:=qcS l c r (i+1) j h (by omega) (by omega) hc
   split
   ·exact List.mem_cons_of_mem _ this
   ·exact this
theorem qaH {l:List TVersion} (h:xg l):l.Nodup:=by
 have:=zN.1 h
 exact this.imp fun h e=>by rw [e] at h;omega
theorem qkp (x:List TVersion) (s:Int):vis (x.map incV) (s+1)=(vis x s).map incV:=by
 unfold vis
 rw [List.filter_map]
 congr 1
 apply List.filter_congr
 intro v _
 show decide (v.At+1≤s+1)=decide (v.At≤s)
 exact decide_eq_decide.2 (by omega)
theorem qkq (x:List TVersion) (s:Int):vis (x.map decV) s=(vis x (s+1)).map decV:=by
 unfold vis
 rw [List.filter_map]
 congr 1
 apply List.filter_congr
 intro v _
 show decide (v.At - 1≤s)=decide (v.At≤s+1)
 exact decide_eq_decide.2 (by omega)
theorem qb0 {x:List TVersion} {b:List Int} {now s:Int} (hv:Vs now x) (hs:s∈b∨s=now):rdv (left x b now) s=rdv x s:=by
 unfold left
 by_cases c:1 < x.length
 ·rw [if_pos c]
  have hxl:(x.map incV).length=x.length:=by simp
  have hso:=ku hv.s
  have hsub:=vj (x.map incV) (kr (x.map incV) (b.map (·+1)++[now+1])) x.length 0
  rw [List.drop_zero] at hsub
  have hmem:s+1∈b.map (·+1)++[now+1]:=by
   rcases hs with h | h
   ·exact List.mem_append_left _ (List.mem_map.2 ⟨s,h,rfl⟩)
   ·exact List.mem_append_right _ (by rw [h];simp)
  have hl:=qbY (x.map incV) (s+1) (x.map incV).length (Nat.le_refl _)
  rw [List.take_length] at hl
  have hlt:=qgj (x.map incV) (s+1) (x.map incV).length
  have key:(vis (jS (x.map incV) (kr (x.map incV) (b.map (·+1)++[now+1])) x.length 0) (s+1)).getLast?=(vis (x.map incV) (s+1)).getLast?:=by
   have hvs:(vis (jS (x.map incV) (kr (x.map incV) (b.map (·+1)++[now+1])) x.length 0) (s+1)).Sublist (vis (x.map incV) (s+1)):=hsub.filter _
   by_cases cl:lst (x.map incV) (s+1) (x.map incV).length < 0
   ·rw [if_pos cl] at hl
    rw [hl]
    have h0:vis (x.map incV) (s+1)=[]:=List.getLast?_eq_none_iff.1 hl
    rw [h0] at hvs
    rw [List.sublist_nil.1 hvs];rfl
   ·rw [if_neg cl] at hl
    have hj:(lst (x.map incV) (s+1) (x.map incV).length).toNat < (x.map incV).length:=by omega
    rw [List.getElem?_eq_getElem hj] at hl
    rw [hl]
    refine qiE hvs hl ?_ ((qaH hso).filter _)
    have hz:=List.mem_of_getLast? hl
    refine List.mem_filter.2 ⟨?_,(List.mem_filter.1 hz).2⟩
    refine qcS _ _ x.length 0 _ hj (Nat.zero_le _) (by omega) ?_
    refine decide_eq_true ⟨s+1,hmem,by omega⟩
  unfold rdv
  rw [qkq,List.getLast?_map,key,qkp,List.getLast?_map,Option.map_map,Option.map_map]
  rfl
 ·rw [if_neg c]
section
variable {T:List TStore} {X:List Ttx} {s:Int} {S:TStore}
theorem qiW {L:List Int} (hL:Txs X S.now_ L) (hl:L.length≤1000):∀ (r i:Nat),i+r=L.length→∀ n,r < n→∀ (b:List Int) (f:Int),b.length≤i→(∀ k∈b,0≤k∧k≤S.now_)→(∀ x∈L.take i,∀ t,idx X x=some t→t.from_∈b∧f≤t.from_)→f≤S.now_ →
  ∃ b' f',y7 L X S T s n b (i:Int) f=qeX S X T s L b' f'∧b'.length≤L.length∧(∀ k∈b',0≤k∧k≤S.now_)∧(∀ x∈L,∀ t,idx X x=some t→t.from_∈b'∧f'≤t.from_)∧f'≤S.now_:=by
 intro r
 induction r with
 | zero =>
  intro i hi n hn b f hb hb2 hb3 hf
  obtain ⟨n,rfl⟩:=Nat.exists_eq_add_one.2 hn
  rw [List.take_of_length_le (by omega)] at hb3
  exact ⟨b,f,by rw [y7,qdD,if_neg (by omega)],by omega,hb2,hb3,hf⟩
 | succ r ih =>
  intro i hi n hn b f hb hb2 hb3 hf
  obtain ⟨n,rfl⟩:=Nat.exists_eq_add_one.2 (show 0 < n by omega)
  have h1:i < L.length:=by omega
  obtain ⟨t,ht,hk⟩:=hL L[i] (List.getElem_mem h1)
  rw [y7,qdD,if_pos (by omega),qk h1,qa,ht,qa,qH (by simp;omega),qa,qr i (by omega),qa]
  refine ih (i+1) (by omega) n (by omega) _ _ (by simp;omega) (fun k hk2=>?_) (fun x hx u hu=>?_) (by omega)
  ·rcases List.mem_append.1 hk2 with hk2 | hk2
   ·exact hb2 k hk2
   ·rw [List.mem_singleton.1 hk2]
    exact ⟨hk.f0,hk.f1⟩
  ·rw [List.take_succ_eq_append_getElem h1] at hx
   rcases List.mem_append.1 hx with hx | hx
   ·have:=hb3 x hx u hu
    exact ⟨List.mem_append_left _ this.1,by omega⟩
   ·rw [List.mem_singleton.1 hx,ht,Option.some.injEq] at hu
    subst hu
    exact ⟨List.mem_append_right _ (List.mem_singleton.2 rfl),by omega⟩
theorem qgI (hs:idx T s=some S) {a:Int} (h:qki S X a):∃ b f,b.length≤12∧f≤S.now_∧(∀ x∈S.active_,x≠a→∀ t,idx X x=some t→t.from_∈b∧f≤t.from_) ∧
  M23 s a T X=some (T.set s.toNat ⟨S.logs_,S.half_,S.gen_,S.down_,S.now_,S.items_.map (fun x=>left x b S.now_),S.active_.filter (fun x=>!(decide (x=a))),S.over_.filter fun x=>!(decide ((kX X x).at_≤f))⟩):=by
 obtain ⟨u,hu⟩:=h.a
 have hn0:=h.n0
 have hn1:=h.n1
 have ha12:=h.a12
 have hfl:=List.length_filter_le (fun x=>!(decide (x=a))) S.active_
 have hac:Txs X S.now_ (S.active_.filter fun x=>!(decide (x=a))):=fun x hx=>h.ac x (List.mem_filter.1 hx).1
 obtain ⟨b,f,g1,g2,g3,g4,g5⟩:=qiW (T:=T) (s:=s) hac (by omega) (S.active_.filter fun x=>!(decide (x=a))).length 0 (by omega) big (by rw [qP];omega) [] S.now_ (by simp) (by simp) (by simp) (Int.le_refl _)
 refine ⟨b,f,by omega,g5,fun x hx hne t ht=>g4 x (List.mem_filter.2 ⟨hx,by simp [hne]⟩) t ht,?_⟩
 have e1:M23 s a T X=qcm X S T s (S.active_.filter fun x=>!(decide (x=a))):=by
  rw [M23,hs,qa,qD h.lg,qa,qD h.it,qa]
  refine qgJ (F1:=fun n i=>jM S X a T s n i) (F:=fun n l i j=>y6 X a S T s n l i j) (z:=-1) (by omega) (K:=fun l=>qcm X S T s l) ?_ ?_ ?_ ?_
  ·intro n l i hl
   simp only [y6,qdC]
   rw [if_neg (by omega),qdO]
  ·intro n l i j hj hl hm
   obtain ⟨t,ht,_⟩:=h.ac _ hm
   simp only [y6,qdC]
   rw [if_pos (by omega),qk hj,qa,ht,qa,hu,qa,qdN]
  ·intro n
   simp only [jM,qad]
   rw [if_neg (by omega),qdM,yc,if_pos rfl]
  ·intro n i hi
   obtain ⟨t,ht,_⟩:=h.ac _ (List.getElem_mem hi)
   simp only [jM,qad]
   rw [if_pos (by omega),qk hi,qa,ht,qa,hu,qa,qdL]
   by_cases c:S.active_[i]=a
   ·rw [if_pos (by simpa using c),if_neg (by simpa using c),yc,if_neg (by omega)]
   ·rw [if_neg (by simpa using c),if_pos (by simpa using c)]
 rw [e1,qcm]
 rw [show ((0:Nat):Int)=0 from rfl] at g1
 rw [g1,qkL h.ov h.ol,qcl]
 have:=qeC h.vs h.it hs hn0 (by omega) (b:=b) (by omega) g3 (S.active_.filter fun x=>!(decide (x=a))) (S.over_.filter fun x=>!(decide ((kX X x).at_≤f))) 20 0 (by omega) big (by rw [qP];omega)
 simpa using this
end
end Go.Proofs.YtdlemoeinjihkaaGreatDoor
end
section
namespace Go.Proofs.YtdlemoeinjihkaaGreatDoor
open Go.S
theorem qcu {l:List Int} (h:l.length < 4611686018427387904):qby l=some (srt l):=if_pos h
theorem qfP {l:List Int} {x:Int}:x∈srt l↔x∈l:=by unfold srt;exact List.mem_mergeSort
abbrev Pairs:=List (Int×List UInt8)
def pr (k:Int) (t:List UInt8):List UInt8:=pI k++pT t
def prs (ps:Pairs):List UInt8:=ps.flatMap fun p=>pr p.1 p.2
def qde (p:Int×List UInt8):Prop:=0≤p.1∧p.1 < 20∧p.2.length≤20
theorem qjL {p:Int×List UInt8} (h:qde p):(pr p.1 p.2).length≤23∧2≤(pr p.1 p.2).length:=by
 obtain ⟨h0,h1,h2⟩:=h
 have a1:=qkJ (k:=p.1) (by omega)
 have a2:=qms p.1
 have a3:=qcL (s:=p.2) (by omega)
 have a4:0 < (enc 10 p.2.length).length:=qcd 9 _
 unfold pr pT at *
 simp only [List.length_append] at *
 omega
theorem qf0:∀ {ps:Pairs},(∀ p∈ps,qde p)→(prs ps).length≤23*ps.length
 | [],_=>by simp [prs]
 | p :: ps,h=>by
  have h1:=qjL (h p List.mem_cons_self)
  have h2:=qf0 (ps:=ps) fun q hq=>h q (List.mem_cons_of_mem _ hq)
  have:prs (p :: ps)=pr p.1 p.2++prs ps:=rfl
  rw [this,List.length_append,List.length_cons]
  omega
theorem qbV {p:Int×List UInt8} (h:qde p):M50 p.1 p.2=some (pr p.1 p.2):=by
 obtain ⟨h0,h1,h2⟩:=h
 have a1:=qf4 p.1
 have a3:=qcL (s:=p.2) (by omega)
 rw [M50,qfV (by omega),qm,qfX h0 (by omega),qa,xR (by omega),qa];rfl
def qW (t:Ttx) (k:Int):List UInt8:=t.texts_.getD k.toNat []
theorem xi {t:Ttx} {now k:Int} (h:TxOk now t) (h0:0≤k) (h1:k < 20):zD 20 t.texts_ k=some (qW t k)∧(qW t k).length≤20∧t.texts_[k.toNat]?=some (qW t k):=by
 have h20:=h.t20
 have hl:k.toNat < t.texts_.length:=by omega
 have e:t.texts_[k.toNat]?=some (qW t k):=by
  rw [qW,List.getD_eq_getElem?_getD,List.getElem?_eq_getElem hl];rfl
 refine ⟨?_,h.tl _ (List.mem_of_getElem? e),e⟩
 rw [zD,if_pos (by omega),idx,if_pos h0,e]
def vc (t:Ttx) (ks:List Int):Pairs:=ks.map fun k=>(k,qW t k)
theorem qkH (a b:Pairs):prs (a++b)=prs a++prs b:=by simp [prs,List.flatMap_append]
section
variable {T:List TStore} {X:List Ttx} {s a:Int} {S:TStore} {D:List TDisk} {G:List TLog} {t:Ttx}
theorem qgn (ha:idx X a=some t) (ht:TxOk S.now_ t) {L:List Int} (hL:∀ k∈L,0≤k∧k < 20) (hl:L.length≤20):∀ (r i:Nat),i+r=L.length→∀ n,r < n→y5 L X a T s D G n (67 :: prs (vc t (L.take i))) (i:Int)=qhv T s D G (67 :: prs (vc t L)):=by
 have hps:∀ ks:List Int,(∀ k∈ks,0≤k∧k < 20)→∀ p∈vc t ks,qde p:=fun ks hk p hp=>by
  obtain ⟨k,hk1,rfl⟩:=List.mem_map.1 hp
  have:=hk k hk1
  exact ⟨this.1,this.2,(xi ht this.1 this.2).2.1⟩
 intro r
 induction r with
 | zero =>
  intro i hi n hn
  obtain ⟨n,rfl⟩:=Nat.exists_eq_add_one.2 hn
  rw [y5,qdB,if_neg (by omega),List.take_of_length_le (by omega)]
 | succ r ih =>
  intro i hi n hn
  obtain ⟨n,rfl⟩:=Nat.exists_eq_add_one.2 (show 0 < n by omega)
  have h1:i < L.length:=by omega
  have hk:=hL L[i] (List.getElem_mem h1)
  have hpk:=hps [L[i]] (fun k hk2=>by rw [List.mem_singleton.1 hk2];exact hk) (L[i],qW t L[i]) (by simp [vc])
  have hl1:=qf0 (hps (L.take i) fun k hk2=>hL k (List.mem_of_mem_take hk2))
  have hl2:=qjL hpk
  have hl3:(vc t (L.take i)).length≤20:=by simp [vc];omega
  rw [y5,qdB,if_pos (by omega),qk h1,qa,ha,qa,(xi ht hk.1 hk.2).1,qa,qbV hpk,qa,xR (by simp at hl2 ⊢;omega),qa,qr i (by omega),qa]
  have e:(67 :: prs (vc t (L.take i)):List UInt8)++pr L[i] (qW t L[i])=67 :: prs (vc t (L.take (i+1))):=by
   have e2:vc t (L.take i++[L[i]])=vc t (L.take i)++[(L[i],qW t L[i])]:=List.map_append
   have e3:prs [(L[i],qW t L[i])]=pr L[i] (qW t L[i]):=by simp [prs]
   rw [qs h1,e2,qkH,e3,List.cons_append]
  rw [e]
  exact ih (i+1) (by omega) n (by omega)
theorem qlg (hs:idx T s=some S) (hlg:S.logs_.length=2) (e:Int):M52 s e T=some (T.set s.toNat ⟨S.logs_,S.half_,S.gen_,S.down_ || decide (e≠0),S.now_,S.items_,S.active_,S.over_⟩,e):=by
 rw [M52,hs,qa,qD hlg,qa]
 cases h:S.down_ with
 | true=>rw [if_pos rfl,upd_ok hs,qa];rfl
 | false=>rw [if_neg (by simp),upd_ok hs,qa];simp
theorem qgE (hs:idx T s=some S) (hlg:S.logs_.length=2) (hd:S.down_=false):M52 s 0 T=some (T,0):=by
 rw [qlg hs hlg]
 have:(⟨S.logs_,S.half_,S.gen_,S.down_ || decide ((0:Int)≠0),S.now_,S.items_,S.active_,S.over_⟩:TStore)=S:=by
  obtain ⟨x1,x2,x3,x4,x5,x6,x7,x8⟩:=S
  simp only at hd
  subst hd;rfl
 rw [this,zS hs]
def Lok (D:List TDisk) (G:List TLog) (S:TStore):Prop:=∃ N gc l d,zD 2 S.logs_ S.half_=some gc∧idx G gc=some l∧l.fell_=false∧0≤l.from_∧0≤l.at_∧idx D l.d_=some d∧Dk N d∧l.from_+l.size_≤N∧Ep l.epoch_∧0≤l.seq_∧l.seq_≤l.at_∧l.at_≤l.size_∧d.late_=[]∧d.left_=-1
theorem qkZ (hs:idx T s=some S) (hlg:S.logs_.length=2) (hd:S.down_=false) (ha:idx X a=some t) (ht:TxOk S.now_ t) (hD:Lok D G S) (hdl:∀ x∈G,x.d_ < D.length) :
  (∃ e,M24 s a T X D G=some (T,D,G,e)∧(e=2∨e=8))∨∃ D' G',M24 s a T X D G=some (T,D',G',0)∧D'.length=D.length∧G'.length=G.length∧(∀ x∈G',x.d_ < D'.length)∧Lok D' G' S:=by
 rw [M24,hs,qa,ha,qa]
 by_cases c:(t.writes_.length:Int)=0
 ·right
  rw [if_pos c]
  exact ⟨D,G,rfl,rfl,rfl,hdl,hD⟩
 ·have hw:=ht.w
  have hsl2:=xe t.writes_
  have hLk:∀ k∈srt t.writes_,0≤k∧k < 20:=fun k hk=>hw.2.2 k (qfP.1 hk)
  have hloop:=qgn (T:=T) (D:=D) (G:=G) (s:=s) ha ht hLk (by omega) (srt t.writes_).length 0 (by omega) big (by rw [qP];omega)
  have e0:(67 :: prs (vc t ((srt t.writes_).take 0)):List UInt8)=[67]:=by simp [vc,prs]
  obtain ⟨N,gc,l,d,h1,h2,h3,h4,h5,h6,h7,h8,h9,h10,h11,h12,h13,h14⟩:=hD
  rw [e0,show ((0:Nat):Int)=0 from rfl] at hloop
  rw [if_neg c,M48,qH (by simp;omega),qa,qa,List.nil_append,qcu (by omega),qa,hloop,qhv,hs,qa,qD hlg,qa,h1,qa]
  by_cases cl:(67 :: prs (vc t (srt t.writes_)):List UInt8).length≤300
  ·rcases qg3 h2 h3 h4 h5 h6 h7 h8 h9 h10 h11 h12 (by rw [h13];simp) cl with ⟨_,g⟩ | ⟨hz,⟨hk,g⟩ | ⟨j,_,hl0,_⟩⟩
   ·left
    rw [g,zx,if_neg (by decide),if_neg (by decide),if_pos rfl]
    exact ⟨8,rfl,.inr rfl⟩
   ·right
    have hgl:=(qe h2).1
    have hleft:=yp (jR l.epoch_ l.seq_ (67 :: prs (vc t (srt t.writes_)))) d (l.from_+l.at_) (by rw [h14];decide)
    have hG:idx (G.set gc.toNat (more l (jR l.epoch_ l.seq_ (67 :: prs (vc t (srt t.writes_)))).length)) gc=some (more l (jR l.epoch_ l.seq_ (67 :: prs (vc t (srt t.writes_)))).length):=qq h2
    have hsy:M53 gc (D.set l.d_.toNat (wrs d (l.from_+l.at_) (jR l.epoch_ l.seq_ (67 :: prs (vc t (srt t.writes_)))))) (G.set gc.toNat (more l (jR l.epoch_ l.seq_ (67 :: prs (vc t (srt t.writes_)))).length))=some ((D.set l.d_.toNat (wrs d (l.from_+l.at_) (jR l.epoch_ l.seq_ (67 :: prs (vc t (srt t.writes_)))))).set l.d_.toNat (fl (wrs d (l.from_+l.at_) (jR l.epoch_ l.seq_ (67 :: prs (vc t (srt t.writes_)))))),G.set gc.toNat (more l (jR l.epoch_ l.seq_ (67 :: prs (vc t (srt t.writes_)))).length),0):=qkA (l:=more l (jR l.epoch_ l.seq_ (67 :: prs (vc t (srt t.writes_)))).length) hG h3 (qq h6) hk (by rw [hleft,h14];decide)
    rw [g,zx,if_pos rfl,hsy,zx,qgE hs hlg hd,qm,hs,qa]
    have hc:=wN h9 (q:=l.seq_) ⟨h10,by have:=h7.n;omega⟩ cl
    refine ⟨_,_,rfl,by simp,by simp,fun x hx=>?_,N,gc,_,_,h1,hG,h3,h4,by show 0≤l.at_+_;omega,qq (qq h6),hk.flushed,h8,h9,by show 0≤l.seq_+1;omega,by show l.seq_+1≤l.at_+_;omega,hz,rfl,by show qbZ _=-1;rw [hleft,h14];rfl⟩
    simp only [List.length_set]
    rcases List.mem_or_eq_of_mem_set hx with hx | rfl
    ·exact hdl x hx
    ·exact hdl l (qb3 h2)
   ·exfalso
    have:=yp ((jR l.epoch_ l.seq_ (67 :: prs (vc t (srt t.writes_)))).take j) d (l.from_+l.at_) (by rw [h14];decide)
    rw [hl0,h14] at this
    cases this
  ·left
   have g:M51 gc (67 :: prs (vc t (srt t.writes_))) D G=some (D,G,2):=by
    rw [M51,h2,qa,if_neg (by simp [h3]),if_pos (by omega)]
   rw [g,zx,if_neg (by decide),if_pos rfl]
   exact ⟨2,rfl,.inl rfl⟩
end
end Go.Proofs.YtdlemoeinjihkaaGreatDoor
end
section
namespace Go.Proofs.YtdlemoeinjihkaaGreatDoor
open Go.S
theorem qb5 {α:Type} {l:List α} {k:Int} (hl:l.length=20) (h0:0≤k) (h1:k < 20):∃ x,zD 20 l k=some x∧idx l k=some x:=by
 obtain ⟨x,hx⟩:=qaZ (l:=l) h0 (by omega)
 exact ⟨x,by rw [zD,if_pos (by omega)];exact hx,hx⟩
def qb2 (l:List TVersion):List UInt8:=(l.getLast?.map (·.Text)).getD []
def VOk (S:TStore) (sure:SS):Prop:=sure=S.items_.map qb2
def Sm (S:TStore):Prop:=∀ l∈S.items_,l.length≤13
theorem qgk {x:List TVersion} {b:List Int} {now:Int} (hv:Vs now x) (hb:b.length≤12) (hn:0≤now):qb2 (left x b now)=qb2 x:=by
 unfold qb2
 rw [(qb1 hv hb hn).2.2]
theorem TxOk.mono {now now':Int} {t:Ttx} (h:TxOk now t) (hn:now≤now'):TxOk now' t:=⟨h.i0,h.i1,h.f0,Int.le_trans h.f1 hn,h.r,h.w,h.t20,h.tl⟩
structure Same (t u:Ttx):Prop where
 i:u.id_=t.id_
 f:u.from_=t.from_
 r:u.reads_=t.reads_
 w:u.writes_=t.writes_
 x:u.texts_=t.texts_
theorem Same.refl (t:Ttx):Same t t:=⟨rfl,rfl,rfl,rfl,rfl⟩
theorem Same.trans {t u v:Ttx} (h:Same t u) (h2:Same u v):Same t v:=⟨h2.i.trans h.i,h2.f.trans h.f,h2.r.trans h.r,h2.w.trans h.w,h2.x.trans h.x⟩
theorem Same.ok {t u:Ttx} {now:Int} (h:Same t u) (ht:TxOk now t):TxOk now u:=⟨by rw [h.i];exact ht.i0,by rw [h.i];exact ht.i1,by rw [h.f];exact ht.f0,by rw [h.f];exact ht.f1,by rw [h.r];exact ht.r,by rw [h.w];exact ht.w,by rw [h.x];exact ht.t20,by rw [h.x];exact ht.tl⟩
structure Like (X X':List Ttx):Prop where
 l:X'.length=X.length
 h:∀ x t,idx X x=some t→∃ u,idx X' x=some u∧Same t u
theorem Like.refl (X:List Ttx):Like X X:=⟨rfl,fun x t h=>⟨t,h,.refl t⟩⟩
theorem Like.trans {X Y Z:List Ttx} (h:Like X Y) (h2:Like Y Z):Like X Z:=⟨h2.l.trans h.l,fun x t hx=>by
 obtain ⟨u,g1,g2⟩:=h.h x t hx
 obtain ⟨v,g3,g4⟩:=h2.h x u g1
 exact ⟨v,g3,g2.trans g4⟩⟩
theorem Like.set {X:List Ttx} {a:Int} {t u:Ttx} (h:idx X a=some t) (hs:Same t u):Like X (X.set a.toNat u):=⟨by simp,fun x v hx=>by
 by_cases c:x=a
 ·subst c
  rw [h,Option.some.injEq] at hx
  exact ⟨u,qq h,by rw [← hx];exact hs⟩
 ·exact ⟨v,kH hx (qe h).1 fun e=>c e.symm,.refl v⟩⟩
theorem Like.txs {X X':List Ttx} {now now':Int} {l:List Int} (h:Like X X') (hn:now≤now') (hl:Txs X now l):Txs X' now' l:=fun x hx=>by
 obtain ⟨t,h1,h2⟩:=hl x hx
 obtain ⟨u,h3,h4⟩:=h.h x t h1
 exact ⟨u,h3,h4.ok (h2.mono hn)⟩
section
variable {T:List TStore} {X:List Ttx} {s a:Int} {S:TStore} {D:List TDisk} {G:List TLog} {t:Ttx}
def dropped (S:TStore) (a:Int) (b:List Int) (p:Int→Bool):TStore:=⟨S.logs_,S.half_,S.gen_,S.down_,S.now_,S.items_.map (fun x=>left x b S.now_),S.active_.filter (fun x=>!(decide (x=a))),S.over_.filter p⟩
theorem wX {b:List Int} {p:Int→Bool} (hb:b.length≤12) (lg:S.logs_.length=2) (it:S.items_.length=20) (vs:∀ l∈S.items_,Vs S.now_ l) (n0:0≤S.now_) (n1:S.now_≤2513169434000) (ac:Txs X S.now_ S.active_) (a12:S.active_.length≤12) (an:S.active_.Nodup)
  (ai:∀ x∈S.active_,∀ y∈S.active_,∀ t u,idx X x=some t→idx X y=some u→t.id_=u.id_→x=y) (ov:Txs X S.now_ S.over_) (ol:(S.over_.length:Int)≤S.now_) (ao:∀ x∈S.active_,x≠a→x ∉ S.over_) {sure:SS} (hv:VOk S sure) :
  StOk (dropped S a b p) X∧Sm (dropped S a b p)∧VOk (dropped S a b p) sure:=by
 have hf:=List.length_filter_le (fun x=>!(decide (x=a))) S.active_
 have hf2:=List.length_filter_le p S.over_
 have hm:∀ x∈S.active_.filter (fun x=>!(decide (x=a))),x∈S.active_∧x≠a:=fun x hx=>by
  have:=List.mem_filter.1 hx
  simpa using this
 refine ⟨⟨lg,by simpa [dropped] using it,fun l hl=>?_,n0,n1,fun x hx=>ac x (hm x hx).1,Nat.le_trans hf a12,an.filter _,fun x hx y hy=>ai x (hm x hx).1 y (hm y hy).1,fun x hx=>ov x (List.mem_filter.1 hx).1,?_,fun x hx h=>ao x (hm x hx).1 (hm x hx).2 (List.mem_filter.1 h).1⟩,fun l hl=>?_,?_⟩
 ·obtain ⟨x,hx,rfl⟩:=List.mem_map.1 hl
  exact (qb1 (vs x hx) hb n0).1
 ·show ((S.over_.filter p).length:Int)≤S.now_
  omega
 ·obtain ⟨x,hx,rfl⟩:=List.mem_map.1 hl
  exact (qb1 (vs x hx) hb n0).2.1
 ·unfold VOk at hv ⊢
  rw [hv]
  show _=(S.items_.map (fun x=>left x b S.now_)).map qb2
  rw [List.map_map]
  apply List.map_congr_left
  intro x hx
  exact (qgk (vs x hx) hb n0).symm
def zy (S:TStore) (I:List (List TVersion)):TStore:=⟨S.logs_,S.half_,S.gen_,S.down_,S.now_,I,S.active_,S.over_⟩
theorem qfu {now:Int} (ht:TxOk now t) (hlg:S.logs_.length=2) (hs:idx T s=some S):∀ (r i:Nat),i+r=t.writes_.length→∀ n,r < n→∀ I:List (List TVersion),I.length=20→(∀ l∈I,l.length≤1000) →
  (∀ k:Nat,k < 20→I[k]?=if (k:Int)∈t.writes_.take i then S.items_[k]?.map (·++[⟨S.now_,qW t k⟩]) else S.items_[k]?)→(∀ l∈S.items_,l.length≤100) →
  ∃ I':List (List TVersion),I'.length=20∧(∀ k:Nat,k < 20→I'[k]?=if (k:Int)∈t.writes_ then S.items_[k]?.map (·++[⟨S.now_,qW t k⟩]) else S.items_[k]?) ∧
  qar t s a X D G n (i:Int) (T.set s.toNat (zy S I))=qhL s a X D G (T.set s.toNat (zy S I')):=by
 have hw:=ht.w
 intro r
 induction r with
 | zero =>
  intro i hi n hn I hI hI2 hI3 hS
  obtain ⟨n,rfl⟩:=Nat.exists_eq_add_one.2 hn
  refine ⟨I,hI,fun k hk=>?_,by rw [qar,qeg,if_neg (by omega)]⟩
  rw [hI3 k hk,List.take_of_length_le (by omega)]
 | succ r ih =>
  intro i hi n hn I hI hI2 hI3 hS
  obtain ⟨n,rfl⟩:=Nat.exists_eq_add_one.2 (show 0 < n by omega)
  have h1:i < t.writes_.length:=by omega
  have hk:=hw.2.2 t.writes_[i] (List.getElem_mem h1)
  obtain ⟨x,hx1,hx2⟩:=qb5 hI hk.1 hk.2
  have hxl:=hI2 x (qb3 hx2)
  have hsI:idx (T.set s.toNat (zy S I)) s=some (zy S I):=qq hs
  have hsI2:=hsI
  simp only [zy] at hsI2
  rw [qar,qeg,if_pos (by omega),qk h1,qa,hsI,qa]
  simp only [zy]
  rw [hx1,qa,qD hlg,qa,(xi ht hk.1 hk.2).1,qa,qH (by simp;omega),qa,qa,upd_ok hx2,qa,qr i (by omega),qa,upd_ok hsI2,qa,zB]
  have hnot:t.writes_[i] ∉ t.writes_.take i:=by
   intro hm
   obtain ⟨q,hq,he⟩:=List.getElem_of_mem hm
   rw [List.length_take] at hq
   rw [List.getElem_take] at he
   exact List.pairwise_iff_getElem.1 hw.2.1 q i (by omega) h1 (by omega) he
  have hIk:I[(t.writes_[i]).toNat]?=some x:=(qe hx2).2.2
  have hSk:S.items_[(t.writes_[i]).toNat]?=some x:=by
   have:=hI3 (t.writes_[i]).toNat (by omega)
   rw [if_neg (by rw [Int.toNat_of_nonneg hk.1];exact hnot),hIk] at this
   exact this.symm
  have hx100:=hS x (List.mem_of_getElem? hSk)
  refine ih (i+1) (by omega) n (by omega) (I.set (t.writes_[i]).toNat (x++[⟨S.now_,qW t t.writes_[i]⟩])) (by simpa using hI) (fun l hl=>?_) (fun k hk2=>?_) hS
  ·rcases List.mem_or_eq_of_mem_set hl with h | rfl
   ·exact hI2 l h
   ·simp;omega
  ·rw [qs h1]
   by_cases c:(k:Int)=t.writes_[i]
   ·have hkn:(t.writes_[i]).toNat=k:=by omega
    rw [hkn] at hSk
    rw [if_pos (List.mem_append_right _ (List.mem_singleton.2 c)),hkn,List.getElem?_set_self (by omega),hSk,Option.map_some,c]
   ·rw [List.getElem?_set_ne (by omega),hI3 k hk2]
    by_cases c2:(k:Int)∈t.writes_.take i
    ·rw [if_pos c2,if_pos (List.mem_append_left _ c2)]
    ·rw [if_neg c2,if_neg fun h=>(List.mem_append.1 h).elim c2 fun h=>c (List.mem_singleton.1 h)]
end
end Go.Proofs.YtdlemoeinjihkaaGreatDoor
end
section
namespace Go.Proofs.YtdlemoeinjihkaaGreatDoor
open Go.S
theorem Vs.mono {now now':Int} {l:List TVersion} (h:Vs now l) (hn:now≤now'):Vs now' l:=⟨h.ne,h.s,fun v hv=>by have:=h.b v hv;exact ⟨this.1,by omega,this.2.2⟩,h.n⟩
theorem Vs.snoc {now:Int} {l:List TVersion} (h:Vs now l) (h0:0≤now) (hl:l.length≤13) {x:List UInt8} (hx:x.length≤20):Vs (now+1) (l++[⟨now+1,x⟩]):=by
 refine ⟨by simp,?_,fun v hv=>?_,by simp;omega⟩
 ·rw [zN,List.pairwise_append]
  refine ⟨zN.1 h.s,by simp,fun a ha b hb=>?_⟩
  have:=h.b a ha
  rw [List.mem_singleton.1 hb]
  show a.At < now+1
  omega
 ·rcases List.mem_append.1 hv with hv | hv
  ·have:=h.b v hv
   exact ⟨this.1,by omega,this.2.2⟩
  ·rw [List.mem_singleton.1 hv]
   exact ⟨by show 0≤now+1;omega,by show now+1≤now+1;omega,hx⟩
section
variable {T:List TStore} {X:List Ttx} {s:Int} {S:TStore} {D:List TDisk} {G:List TLog}
variable {sure:SS}
theorem StOk.drop (h:StOk S X) {a:Int} (ha:a∈S.active_):qki S X a:=by
 have h1:=h.ol
 have h2:=h.n1
 obtain ⟨t,ht,_⟩:=h.ac a ha
 exact ⟨h.lg,h.it,h.vs,h.n0,h.n1,h.ac,h.a12,h.ov,by omega,t,ht⟩
theorem StOk.dropped (h:StOk S X) {a:Int} {b:List Int} {q:Int→Bool} (hb:b.length≤12) (hv:VOk S sure):StOk (dropped S a b q) X∧Sm (dropped S a b q)∧VOk (dropped S a b q) sure :=
 wX hb h.lg h.it h.vs h.n0 h.n1 h.ac h.a12 h.an h.ai h.ov h.ol (fun x hx _=>h.ao x hx) hv
end
end Go.Proofs.YtdlemoeinjihkaaGreatDoor
end
section
namespace Go.Proofs.YtdlemoeinjihkaaGreatDoor
open Go.S
structure Up (t u:Ttx):Prop where
 s:Same t u
 a:u.at_=t.at_
 n:t.in_=true→u.in_=true
 o:t.out_=true→u.out_=true
theorem Up.refl (t:Ttx):Up t t:=⟨.refl t,rfl,id,id⟩
theorem Up.trans {t u v:Ttx} (h:Up t u) (h2:Up u v):Up t v:=⟨h.s.trans h2.s,h2.a.trans h.a,fun q=>h2.n (h.n q),fun q=>h2.o (h.o q)⟩
structure LikeU (X X':List Ttx):Prop where
 l:X'.length=X.length
 h:∀ x t,idx X x=some t→∃ u,idx X' x=some u∧Up t u
theorem LikeU.refl (X:List Ttx):LikeU X X:=⟨rfl,fun x t h=>⟨t,h,.refl t⟩⟩
theorem LikeU.trans {X Y Z:List Ttx} (h:LikeU X Y) (h2:LikeU Y Z):LikeU X Z:=⟨h2.l.trans h.l,fun x t hx=>by
 obtain ⟨u,h3,h4⟩:=h.h x t hx
 obtain ⟨v,h5,h6⟩:=h2.h x u h3
 exact ⟨v,h5,h4.trans h6⟩⟩
theorem LikeU.set {X:List Ttx} {a:Int} {t u:Ttx} (h:idx X a=some t) (hs:Up t u):LikeU X (X.set a.toNat u):=⟨by simp,fun x v hx=>by
 by_cases c:a=x
 ·subst c
  rw [h,Option.some.injEq] at hx
  subst hx
  exact ⟨u,qq h,hs⟩
 ·exact ⟨v,kH hx (qe h).1 c,.refl v⟩⟩
theorem LikeU.like {X X':List Ttx} (h:LikeU X X'):Like X X':=⟨h.l,fun x t hx=>by
 obtain ⟨u,h1,h2⟩:=h.h x t hx
 exact ⟨u,h1,h2.s⟩⟩
section
variable {T:List TStore} {X:List Ttx} {s a:Int} {S:TStore} {D:List TDisk} {G:List TLog}
theorem qkM {now:Int} {L:List Int} (hL:Txs X now L) (hl:L.length≤4611686018427387904) (ha:∃ t,idx X a=some t∧TxOk now t):∀ (r i:Nat),i+r=L.length→∀ n,r < n→∀ Z,LikeU X Z →
  ∃ Z',LikeU Z Z'∧(∀ y∈L.drop i,∀ u,idx Z' y=some u→u.out_=true)∧(L.drop i≠[]→∀ u,idx Z' a=some u→u.in_=true)∧qaq L a s D G T n (i:Int) Z=qhM a s D G T Z':=by
 intro r
 induction r with
 | zero =>
  intro i hi n hn Z hZ
  obtain ⟨n,rfl⟩:=Nat.exists_eq_add_one.2 hn
  rw [List.drop_eq_nil_of_le (by omega)]
  exact ⟨Z,.refl Z,by simp,by simp,by rw [qaq,qef,if_neg (by omega)]⟩
 | succ r ih =>
  intro i hi n hn Z hZ
  obtain ⟨n,rfl⟩:=Nat.exists_eq_add_one.2 (show 0 < n by omega)
  have h1:i < L.length:=by omega
  obtain ⟨y,hy1,hy2⟩:=hL L[i] (List.getElem_mem h1)
  obtain ⟨y',hy3,hy4⟩:=hZ.h _ _ hy1
  obtain ⟨t,ht1,ht2⟩:=ha
  have hZ1:LikeU Z (Z.set (L[i]).toNat ⟨y'.id_,y'.from_,y'.at_,y'.reads_,y'.writes_,y'.texts_,y'.in_,true⟩):=.set hy3 ⟨⟨rfl,rfl,rfl,rfl,rfl⟩,rfl,id,fun _=>rfl⟩
  have hy5:=qq (y:=(⟨y'.id_,y'.from_,y'.at_,y'.reads_,y'.writes_,y'.texts_,y'.in_,true⟩:Ttx)) hy3
  obtain ⟨t',ht3,ht4⟩:=(hZ.trans hZ1).h _ _ ht1
  have hZ2:LikeU (Z.set (L[i]).toNat ⟨y'.id_,y'.from_,y'.at_,y'.reads_,y'.writes_,y'.texts_,y'.in_,true⟩) ((Z.set (L[i]).toNat ⟨y'.id_,y'.from_,y'.at_,y'.reads_,y'.writes_,y'.texts_,y'.in_,true⟩).set a.toNat ⟨t'.id_,t'.from_,t'.at_,t'.reads_,t'.writes_,t'.texts_,true,t'.out_⟩):=.set ht3 ⟨⟨rfl,rfl,rfl,rfl,rfl⟩,rfl,fun _=>rfl,id⟩
  rw [qaq,qef,if_pos (by omega),qk h1,qa,hy3,qa,qD (hy4.s.ok hy2).t20,qa,upd_ok hy3,qa,ht3,qa,qD (ht4.s.ok ht2).t20,qa,qr i (by omega),qa,upd_ok ht3,qa]
  obtain ⟨Z',g1,g2,g3,g4⟩:=ih (i+1) (by omega) n (by omega) _ ((hZ.trans hZ1).trans hZ2)
  refine ⟨Z',(hZ1.trans hZ2).trans g1,fun z hz u hu=>?_,fun _ u hu=>?_,g4⟩
  ·rw [qgH h1] at hz
   rcases List.mem_cons.1 hz with rfl | hz
   ·obtain ⟨v,hv1,hv2⟩:=(hZ2.trans g1).h _ _ hy5
    rw [hu,Option.some.injEq] at hv1
    subst hv1
    exact hv2.o rfl
   ·exact g2 z hz u hu
  ·obtain ⟨v,hv1,hv2⟩:=g1.h _ _ (qq (y:=(⟨t'.id_,t'.from_,t'.at_,t'.reads_,t'.writes_,t'.texts_,true,t'.out_⟩:Ttx)) ht3)
   rw [hu,Option.some.injEq] at hv1
   subst hv1
   exact hv2.n rfl
theorem qmH {now:Int} {L L2:List Int} (hL:Txs X now L) (hl:L.length≤4611686018427387904) (ha:∃ t,idx X a=some t∧TxOk now t):∀ (r i:Nat),i+r=L.length→∀ n,r < n→∀ Z,LikeU X Z →
  ∃ Z',LikeU Z Z'∧(∀ y∈L.drop i,∀ u,idx Z' y=some u→u.in_=true)∧(L.drop i≠[]→∀ u,idx Z' a=some u→u.out_=true)∧qap L a L2 s D G T n (i:Int) Z=qhN L2 a s D G T Z':=by
 intro r
 induction r with
 | zero =>
  intro i hi n hn Z hZ
  obtain ⟨n,rfl⟩:=Nat.exists_eq_add_one.2 hn
  rw [List.drop_eq_nil_of_le (by omega)]
  exact ⟨Z,.refl Z,by simp,by simp,by rw [qap,qee,if_neg (by omega)]⟩
 | succ r ih =>
  intro i hi n hn Z hZ
  obtain ⟨n,rfl⟩:=Nat.exists_eq_add_one.2 (show 0 < n by omega)
  have h1:i < L.length:=by omega
  obtain ⟨y,hy1,hy2⟩:=hL L[i] (List.getElem_mem h1)
  obtain ⟨y',hy3,hy4⟩:=hZ.h _ _ hy1
  obtain ⟨t,ht1,ht2⟩:=ha
  have hZ1:LikeU Z (Z.set (L[i]).toNat ⟨y'.id_,y'.from_,y'.at_,y'.reads_,y'.writes_,y'.texts_,true,y'.out_⟩):=.set hy3 ⟨⟨rfl,rfl,rfl,rfl,rfl⟩,rfl,fun _=>rfl,id⟩
  have hy5:=qq (y:=(⟨y'.id_,y'.from_,y'.at_,y'.reads_,y'.writes_,y'.texts_,true,y'.out_⟩:Ttx)) hy3
  obtain ⟨t',ht3,ht4⟩:=(hZ.trans hZ1).h _ _ ht1
  have hZ2:LikeU (Z.set (L[i]).toNat ⟨y'.id_,y'.from_,y'.at_,y'.reads_,y'.writes_,y'.texts_,true,y'.out_⟩) ((Z.set (L[i]).toNat ⟨y'.id_,y'.from_,y'.at_,y'.reads_,y'.writes_,y'.texts_,true,y'.out_⟩).set a.toNat ⟨t'.id_,t'.from_,t'.at_,t'.reads_,t'.writes_,t'.texts_,t'.in_,true⟩):=.set ht3 ⟨⟨rfl,rfl,rfl,rfl,rfl⟩,rfl,id,fun _=>rfl⟩
  rw [qap,qee,if_pos (by omega),qk h1,qa,hy3,qa,qD (hy4.s.ok hy2).t20,qa,upd_ok hy3,qa,ht3,qa,qD (ht4.s.ok ht2).t20,qa,qr i (by omega),qa,upd_ok ht3,qa]
  obtain ⟨Z',g1,g2,g3,g4⟩:=ih (i+1) (by omega) n (by omega) _ ((hZ.trans hZ1).trans hZ2)
  refine ⟨Z',(hZ1.trans hZ2).trans g1,fun z hz u hu=>?_,fun _ u hu=>?_,g4⟩
  ·rw [qgH h1] at hz
   rcases List.mem_cons.1 hz with rfl | hz
   ·obtain ⟨v,hv1,hv2⟩:=(hZ2.trans g1).h _ _ hy5
    rw [hu,Option.some.injEq] at hv1
    subst hv1
    exact hv2.n rfl
   ·exact g2 z hz u hu
  ·obtain ⟨v,hv1,hv2⟩:=g1.h _ _ (qq (y:=(⟨t'.id_,t'.from_,t'.at_,t'.reads_,t'.writes_,t'.texts_,t'.in_,true⟩:Ttx)) ht3)
   rw [hu,Option.some.injEq] at hv1
   subst hv1
   exact hv2.o rfl
def wk (t:Ttx) (n:Int):Ttx:=⟨t.id_,t.from_,n,t.reads_,t.writes_,t.texts_,t.in_,t.out_⟩
structure Com (X:List Ttx) (S:TStore) (a:Int) (t:Ttx) (Z:List Ttx) (S':TStore):Prop where
 lk:LikeU (X.set a.toNat (wk t (S.now_+1))) Z
 may:∃ ins outs,May X t S.over_ ins outs false false∧(∀ y∈ins,∀ u,idx Z y=some u→u.in_=true)∧(ins≠[]→∀ u,idx Z a=some u→u.out_=true)∧(∀ y∈outs,∀ u,idx Z y=some u→u.out_=true)∧(outs≠[]→∀ u,idx Z a=some u→u.in_=true)
 logs:S'.logs_=S.logs_
 half:S'.half_=S.half_
 down:S'.down_=S.down_
 now:S'.now_=S.now_+1
 act:S'.active_=S.active_.filter (fun x=>!(decide (x=a)))
 rest:∃ (b:List Int) (f:Int),f≤S.now_+1∧(∀ x∈S.active_,x≠a→∀ t,idx X x=some t→t.from_∈b∧f≤t.from_) ∧
  S'.over_=(S.over_++[a]).filter (fun x=>!(decide ((kX Z x).at_≤f))) ∧
  ∀ k:Nat,k < 20→∃ x y,S.items_[k]?=some x∧S'.items_[k]?=some y∧(∀ q,(q=S.now_+1∨q∈b)→rdv y q=rdv (if (k:Int)∈t.writes_ then x++[⟨S.now_+1,qW t k⟩] else x) q)
theorem qgP (hs:idx T s=some S) (h:StOk S X) (hsm:Sm S) (hn:S.now_ < 2513169434000) (hD:Lok D G S) (hdl:∀ x∈G,x.d_ < D.length) (id:Int) :
  (∃ e,M10 s id T X D G=some (T,X,D,G,e)∧e≠0∧e≠12) ∨
  (∃ a t b f,a∈S.active_∧idx X a=some t∧t.id_=id∧M10 s id T X D G=some (T.set s.toNat (dropped S a b fun x=>!(decide ((kX X x).at_≤f))),X,D,G,12)∧StOk (dropped S a b fun x=>!(decide ((kX X x).at_≤f))) X∧Sm (dropped S a b fun x=>!(decide ((kX X x).at_≤f)))∧f≤S.now_∧(∀ x∈S.active_,x≠a→∀ t,idx X x=some t→t.from_∈b∧f≤t.from_)) ∨
  (∃ a t D' S' Z G',a∈S.active_∧idx X a=some t∧t.id_=id∧M10 s id T X D G=some (T.set s.toNat S',Z,D',G',0)∧Com X S a t Z S'∧StOk S' Z∧Sm S'∧D'.length=D.length∧G'.length=G.length∧(∀ x∈G',x.d_ < D'.length)∧Lok D' G' S'):=by
 obtain ⟨a,e,g1,g2⟩:=qlp hs h id 0
 rw [M10,hs,qa,g1,qm,qa]
 rcases g2 with ⟨rfl,hd,hk0,hk,_,_,t,ht,hid⟩ | g2
 ·have hn0:=h.n0
  obtain ⟨t',ht',htk⟩:=h.ac a hk
  rw [ht,Option.some.injEq] at ht'
  subst ht'
  obtain ⟨ins,outs,b11,g3,g4,g5,g6,g7,gm⟩:=qmz hs h ht htk (h.ao a hk)
  rw [if_neg (by simp),g3,zx,qa]
  cases b11 with
  | false =>
   right;left
   obtain ⟨b,f,hb,hf,hbf,g8⟩:=qgI hs (h.drop hk)
   rw [if_neg (by simp),g8,qa,qq hs,qa]
   obtain ⟨k1,k2,_⟩:=h.dropped (a:=a) (b:=b) (q:=fun x=>!(decide ((kX X x).at_≤f))) (sure:=S.items_.map qb2) hb rfl
   exact ⟨a,t,b,f,hk,ht,hid,rfl,k1,k2,hf,hbf⟩
  | true =>
   rw [if_pos rfl]
   rcases qkZ (T:=T) (X:=X) hs h.lg hd ht htk hD hdl with ⟨e,g8,g9⟩ | ⟨D',G',g8,hDl,hGl,hGd,hD'⟩
   ·left
    rw [g8,w5,hs,qa,if_pos (by omega)]
    exact ⟨e,rfl,by omega,by omega⟩
   ·right;right
    have hol:=h.ol
    obtain ⟨S1,hS1⟩:∃ S1,S1=(⟨S.logs_,S.half_,S.gen_,S.down_,S.now_+1,S.items_,S.active_,S.over_⟩:TStore):=⟨_,rfl⟩
    rw [g8,w5,hs,qa,if_neg (by simp),qD h.lg,qa,qN (by omega) (by omega),qa,upd_ok hs,qa,ht,qa,upd_ok ht,qa,← hS1]
    have hl1:Like X (X.set a.toNat (wk t (S.now_+1))):=.set ht ⟨rfl,rfl,rfl,rfl,rfl⟩
    have hta:idx (X.set a.toNat (wk t (S.now_+1))) a=some (wk t (S.now_+1)):=qq ht
    have htka:TxOk S.now_ (wk t (S.now_+1)):=(show Same t (wk t (S.now_+1)) from ⟨rfl,rfl,rfl,rfl,rfl⟩).ok htk
    have hti:Txs (X.set a.toNat (wk t (S.now_+1))) S.now_ ins:=hl1.txs (Int.le_refl _) fun x hx=>h.ov x (g4 x hx)
    have hto:Txs (X.set a.toNat (wk t (S.now_+1))) S.now_ outs:=hl1.txs (Int.le_refl _) fun x hx=>h.ov x (g5 x hx)
    obtain ⟨Z1,hZ1,fi1,fi2,e1⟩:=qmH (T:=T.set s.toNat S1) (s:=s) (D:=D') (G:=G') (L2:=outs) hti (by omega) ⟨_,hta,htka⟩ ins.length 0 (by omega) big (by rw [qP];omega) _ (.refl _)
    rw [show ((0:Nat):Int)=0 from rfl] at e1
    obtain ⟨Z2,hZ2,fo1,fo2,e2⟩:=qkM (T:=T.set s.toNat S1) (s:=s) (D:=D') (G:=G') hto (by omega) ⟨_,hta,htka⟩ outs.length 0 (by omega) big (by rw [qP];omega) _ hZ1
    rw [show ((0:Nat):Int)=0 from rfl] at e2
    rw [List.drop_zero] at fi1 fi2 fo1 fo2
    have hZ:=hZ1.trans hZ2
    have hZL:=hl1.trans hZ.like
    obtain ⟨u,hu,hup⟩:=hZ.h a _ hta
    have hsame:=hup.s
    have huk:=hsame.ok htka
    have hs1:idx (T.set s.toNat S1) s=some S1:=qq hs
    have hS1i:S1.items_=S.items_:=by rw [hS1]
    have hS1l:S1.logs_=S.logs_:=by rw [hS1]
    have hS1n:S1.now_=S.now_+1:=by rw [hS1]
    have hS1a:S1.active_=S.active_:=by rw [hS1]
    have hS1o:S1.over_=S.over_:=by rw [hS1]
    obtain ⟨I',hI,hI2,e3⟩:=qfu (X:=Z2) (a:=a) (D:=D') (G:=G') huk (by rw [hS1l];exact h.lg) hs1 u.writes_.length 0 (by omega) big (by have:=huk.w.1;rw [qP];omega) S1.items_ (by rw [hS1i];exact h.it) (fun l hl=>by rw [hS1i] at hl;have:=hsm l hl;omega) (fun k _=>by simp) (fun l hl=>by rw [hS1i] at hl;have:=hsm l hl;omega)
    have hsame1:(T.set s.toNat S1).set s.toNat (zy S1 S1.items_)=T.set s.toNat S1:=by rw [zB];rfl
    rw [hsame1,show ((0:Nat):Int)=0 from rfl,zB] at e3
    have e1':=e1
    unfold wk at e1'
    rw [e1',qhN,e2,qhM,hu,qa,e3,qhL,qq hs,qa]
    simp only [zy]
    obtain ⟨S2,hS2⟩:∃ S2,S2=(⟨S1.logs_,S1.half_,S1.gen_,S1.down_,S1.now_,I',S1.active_,S1.over_++[a]⟩:TStore):=⟨_,rfl⟩
    have hs3:idx (T.set s.toNat (⟨S1.logs_,S1.half_,S1.gen_,S1.down_,S1.now_,I',S1.active_,S1.over_⟩:TStore)) s=some (⟨S1.logs_,S1.half_,S1.gen_,S1.down_,S1.now_,I',S1.active_,S1.over_⟩:TStore):=qq hs
    rw [qD (by rw [hS1l];exact h.lg),qa,qD hI,qa,qH (by rw [hS1o];simp;omega),qa,upd_ok hs3,qa,zB,← hS2]
    have hs2:idx (T.set s.toNat S2) s=some S2:=qq hs
    have lg2:S2.logs_.length=2:=by rw [hS2];simp only [hS1l];exact h.lg
    have it2:S2.items_.length=20:=by rw [hS2];exact hI
    have nw2:S2.now_=S.now_+1:=by rw [hS2];exact hS1n
    have ac2:S2.active_=S.active_:=by rw [hS2];exact hS1a
    have ov2:S2.over_=S.over_++[a]:=by rw [hS2];simp only [hS1o]
    have i2:S2.items_=I':=by rw [hS2]
    have hIk:∀ k:Nat,k < 20→I'[k]?=if (k:Int)∈t.writes_ then S.items_[k]?.map (·++[⟨S.now_+1,qW t k⟩]) else S.items_[k]?:=fun k hk=>by
     have e:qW u (k:Int)=qW t k:=by unfold qW;rw [hsame.x];rfl
     have e2:u.writes_=t.writes_:=hsame.w
     rw [hI2 k hk,e2,e,hS1i,hS1n]
    have vs2:∀ l∈S2.items_,Vs S2.now_ l:=fun l hl=>by
     rw [i2] at hl
     obtain ⟨k,hk,rfl⟩:=List.getElem_of_mem hl
     have e:=hIk k (by omega)
     have hki:k < S.items_.length:=by rw [h.it];omega
     have hvk:=h.vs S.items_[k] (List.getElem_mem hki)
     rw [List.getElem?_eq_getElem hk,List.getElem?_eq_getElem hki] at e
     rw [nw2]
     split at e
     ·rw [Option.map_some,Option.some.injEq] at e
      rw [e]
      exact hvk.snoc hn0 (hsm _ (List.getElem_mem hki)) (xi htk (by omega) (by omega)).2.1
     ·rw [Option.some.injEq] at e
      rw [e];exact hvk.mono (by omega)
    have acT:Txs Z2 S2.now_ S2.active_:=by rw [nw2,ac2];exact hZL.txs (by omega) h.ac
    have ovT:Txs Z2 S2.now_ S2.over_:=by
     rw [nw2,ov2]
     intro x hx
     rcases List.mem_append.1 hx with hx | hx
     ·exact hZL.txs (show S.now_≤S.now_+1 by omega) h.ov x hx
     ·rw [List.mem_singleton.1 hx];exact ⟨u,hu,huk.mono (by omega)⟩
    have ai2:∀ x∈S2.active_,∀ y∈S2.active_,∀ t u,idx Z2 x=some t→idx Z2 y=some u→t.id_=u.id_→x=y:=by
     rw [ac2]
     intro x hx y hy t1 u1 hx1 hy1 hi
     obtain ⟨t0,ht0,_⟩:=h.ac x hx
     obtain ⟨u0,hu0,_⟩:=h.ac y hy
     obtain ⟨t2,ht2,hts⟩:=hZL.h x t0 ht0
     obtain ⟨u2,hu2,hus⟩:=hZL.h y u0 hu0
     rw [hx1,Option.some.injEq] at ht2
     rw [hy1,Option.some.injEq] at hu2
     subst ht2
     subst hu2
     exact h.ai x hx y hy t0 u0 ht0 hu0 (by rw [← hts.i,← hus.i,hi])
    obtain ⟨b,f,hb,hf,hbf,g9⟩:=qgI hs2 (a:=a) (X:=Z2) ⟨lg2,it2,vs2,by omega,by omega,acT,by rw [ac2];exact h.a12,ovT,by rw [ov2];simp;omega,u,hu⟩
    obtain ⟨f1,f2,f3⟩:=wX (X:=Z2) (a:=a) (p:=fun x=>!(decide ((kX Z2 x).at_≤f))) (sure:=S2.items_.map qb2) hb lg2 it2 vs2 (by omega) (by omega) acT (by rw [ac2];exact h.a12) (by rw [ac2];exact h.an) ai2 ovT (by rw [ov2];simp;omega) (fun x hx hxa=>by
     rw [ac2] at hx
     rw [ov2]
     intro hm
     rcases List.mem_append.1 hm with hm | hm
     ·exact h.ao x hx hm
     ·exact hxa (List.mem_singleton.1 hm)) rfl
    rw [g9,qa,zB,qq hs,qa]
    have hlogs:(dropped S2 a b fun x=>!(decide ((kX Z2 x).at_≤f))).logs_=S.logs_:=by show S2.logs_=_;rw [hS2];exact hS1l
    have hhalf:(dropped S2 a b fun x=>!(decide ((kX Z2 x).at_≤f))).half_=S.half_:=by show S2.half_=_;rw [hS2,hS1]
    refine ⟨a,t,D',_,Z2,G',hk,ht,hid,rfl,⟨hZ,⟨ins,outs,gm rfl,fun y hy v hv=>?_,fun hne v hv=>?_,fo1,fo2⟩,hlogs,hhalf,?_,nw2,?_,b,f,by rw [← nw2];exact hf,fun x hx hxa v hv=>?_,?_,fun k hk2=>?_⟩,f1,f2,hDl,hGl,hGd,?_⟩
    ·obtain ⟨v0,hv0,hv1⟩:∃ v0,idx Z1 y=some v0∧Up v0 v:=by
      have hlt:=(qe hv).2.1
      have hl0:=(qe hv).1
      obtain ⟨v0,hv0⟩:=qaZ (l:=Z1) (a:=y) hl0 (by rw [← hZ2.l];exact hlt)
      obtain ⟨v',h1,h2⟩:=hZ2.h y v0 hv0
      rw [hv,Option.some.injEq] at h1
      subst h1
      exact ⟨v0,hv0,h2⟩
     exact hv1.n (fi1 y hy v0 hv0)
    ·obtain ⟨v0,hv0,hv1⟩:∃ v0,idx Z1 a=some v0∧Up v0 v:=by
      have hlt:=(qe hv).2.1
      have hl0:=(qe hv).1
      obtain ⟨v0,hv0⟩:=qaZ (l:=Z1) (a:=a) hl0 (by rw [← hZ2.l];exact hlt)
      obtain ⟨v',h1,h2⟩:=hZ2.h a v0 hv0
      rw [hv,Option.some.injEq] at h1
      subst h1
      exact ⟨v0,hv0,h2⟩
     exact hv1.o (fi2 hne v0 hv0)
    ·show S2.down_=_;rw [hS2,hS1]
    ·show S2.active_.filter _=_;rw [ac2]
    ·obtain ⟨v',h1,h2⟩:=hZL.h x v hv
     have:=hbf x (by rw [ac2];exact hx) hxa v' h1
     rw [h2.f] at this
     exact this
    ·show S2.over_.filter _=_;rw [ov2]
    ·have hki:k < S.items_.length:=by rw [h.it];omega
     have hkI:k < I'.length:=by omega
     have e:=hIk k hk2
     have hv2:=vs2 I'[k] (by rw [i2];exact List.getElem_mem hkI)
     have hy:(dropped S2 a b fun x=>!(decide ((kX Z2 x).at_≤f))).items_[k]?=some (left I'[k] b S2.now_):=by
      show (S2.items_.map _)[k]?=_
      rw [i2,List.getElem?_map,List.getElem?_eq_getElem hkI];rfl
     refine ⟨S.items_[k],_,List.getElem?_eq_getElem hki,hy,fun q hq=>?_⟩
     rw [qb0 hv2 (s:=q) (by rw [nw2];exact hq.symm)]
     rw [List.getElem?_eq_getElem hkI,List.getElem?_eq_getElem hki] at e
     split at e
     ·rename_i c
      rw [Option.map_some,Option.some.injEq] at e
      rw [e,if_pos c]
     ·rename_i c
      rw [Option.some.injEq] at e
      rw [e,if_neg c]
    ·obtain ⟨N,gc,l,d,h1,h2⟩:=hD'
     exact ⟨N,gc,l,d,by show zD 2 S2.logs_ S2.half_=some gc;rw [show S2.logs_=S.logs_ from hlogs,show S2.half_=S.half_ from hhalf];exact h1,h2⟩
 ·left
  have he:e≠0:=by omega
  rw [if_pos he]
  exact ⟨e,rfl,he,by omega⟩
end
end Go.Proofs.YtdlemoeinjihkaaGreatDoor
end
section
namespace Go.Proofs.YtdlemoeinjihkaaGreatDoor
open Go.S
theorem xm:∀ (n:Nat) (l:List Int),l.Nodup→(∀ x∈l,0≤x∧x < n)→l.length≤n
 | 0,[],_,_=>Nat.le_refl _
 | 0,x :: l,_,h=>by have:=h x List.mem_cons_self;omega
 | n+1,l,hn,h=>by
  have ih:=xm n (l.filter fun x=>decide (x≠(n:Int))) (hn.filter _) fun x hx=>by
   obtain ⟨h1,h2⟩:=List.mem_filter.1 hx
   have:=h x h1
   simp at h2
   omega
  by_cases c:(n:Int)∈l
  ·have h1:=List.length_erase_of_mem c
   have h2:=hn.erase_eq_filter (n:Int)
   have h3:(l.filter fun x=>decide (x≠(n:Int)))=l.filter fun x=>x != (n:Int):=by
    apply List.filter_congr
    intro x _
    by_cases e:x=(n:Int) <;> simp [e]
   rw [h3,← h2,h1] at ih
   omega
  ·have h1:(l.filter fun x=>decide (x≠(n:Int)))=l:=by
    rw [List.filter_eq_self]
    intro x hx
    simp only [decide_eq_true_eq]
    rintro rfl
    exact c hx
   rw [h1] at ih
   omega
structure Stay (X X':List Ttx):Prop where
 l:X.length≤X'.length
 h:∀ x t,idx X x=some t→∃ u,idx X' x=some u∧u.id_=t.id_∧∀ now,TxOk now t→TxOk now u
theorem Stay.set {X:List Ttx} {a:Int} {t u:Ttx} (h:idx X a=some t) (hi:u.id_=t.id_) (ho:∀ now,TxOk now t→TxOk now u):Stay X (X.set a.toNat u):=⟨by simp,fun x v hx=>by
 by_cases c:x=a
 ·subst c
  rw [h,Option.some.injEq] at hx
  subst hx
  exact ⟨u,qq h,hi,ho⟩
 ·exact ⟨v,kH hx (qe h).1 fun e=>c e.symm,rfl,fun _ h=>h⟩⟩
theorem js {α:Type} {l:List α} {x:Int} {t u:α} (h:idx l x=some t):idx (l++[u]) x=some t:=by
 obtain ⟨h0,h1,h2⟩:=qe h
 unfold idx
 rw [if_pos h0,List.getElem?_append_left (by omega),h2]
theorem Stay.snoc (X:List Ttx) (u:Ttx):Stay X (X++[u]):=⟨by simp,fun x t h=>⟨t,js h,rfl,fun _ h=>h⟩⟩
theorem StOk.stay {S:TStore} {X X':List Ttx} (h:StOk S X) (hs:Stay X X'):StOk S X':=by
 refine ⟨h.lg,h.it,h.vs,h.n0,h.n1,fun x hx=>?_,h.a12,h.an,fun x hx y hy t u ht hu hi=>?_,fun x hx=>?_,h.ol,h.ao⟩
 ·obtain ⟨t,h1,h2⟩:=h.ac x hx
  obtain ⟨u,h3,h4,h5⟩:=hs.h x t h1
  exact ⟨u,h3,h5 _ h2⟩
 ·obtain ⟨t0,h1,_⟩:=h.ac x hx
  obtain ⟨u0,h2,_⟩:=h.ac y hy
  obtain ⟨t1,h3,h4,_⟩:=hs.h x t0 h1
  obtain ⟨u1,h5,h6,_⟩:=hs.h y u0 h2
  rw [ht,Option.some.injEq] at h3
  rw [hu,Option.some.injEq] at h5
  subst h3
  subst h5
  exact h.ai x hx y hy t0 u0 h1 h2 (by omega)
 ·obtain ⟨t,h1,h2⟩:=h.ov x hx
  obtain ⟨u,h3,h4,h5⟩:=hs.h x t h1
  exact ⟨u,h3,h5 _ h2⟩
theorem Txs.lt {X:List Ttx} {now:Int} {l:List Int} (h:Txs X now l):∀ k∈l,k < X.length:=fun k hk=>by
 obtain ⟨t,h1,_⟩:=h k hk
 exact (qe h1).2.1
section
variable {T:List TStore} {X:List Ttx} {s:Int} {S:TStore}
def jq (id now:Int):Ttx:=⟨id,now,0,[],[],List.replicate 20 [],false,false⟩
def qg0 (S:TStore) (x:Int):TStore:=⟨S.logs_,S.half_,S.gen_,S.down_,S.now_,S.items_,S.active_++[x],S.over_⟩
theorem qiz {id now:Int} (h0:0≤id) (h1:id < 12) (hn:0≤now):TxOk now (jq id now):=by
 refine ⟨h0,h1,hn,Int.le_refl _,by simp [jq],by simp [jq],by simp [jq],fun x hx=>?_⟩
 rw [(List.mem_replicate.1 hx).2];simp
theorem qiX (hs:idx T s=some S) (h:StOk S X) (hT:∀ x∈T,TStore.ok73 X.length x) (id:Int) :
  (∃ e,M6 s id T X=some (T,X,e)∧e≠0) ∨
  (M6 s id T X=some (T.set s.toNat (qg0 S X.length),X++[jq id S.now_],0)∧0≤id∧id < 12∧StOk (qg0 S X.length) (X++[jq id S.now_])∧∀ x∈S.active_,∀ t,idx X x=some t→t.id_≠id):=by
 rw [M6,hs,qa,qD h.lg,qa]
 have ktrue:∃ e,qj2 T X s id true=some (T,X,e)∧e≠0:=⟨1,by rw [qj2,if_pos rfl],by decide⟩
 split
 ·exact .inl ⟨13,rfl,by decide⟩
 ·split
  ·exact .inl ktrue
  ·split
   ·exact .inl ktrue
   ·rename_i h1 h2
    obtain ⟨k,g1,g2⟩:=qgw hs h id
    rw [qj2,if_neg (by simp),g1,qa,hs,qa]
    rcases g2 with ⟨g2,_⟩ | ⟨g2,g3⟩
    ·rw [if_pos g2];exact .inl ⟨7,rfl,by decide⟩
    ·right
     have hn0:=h.n0
     have ha12:=h.a12
     rw [if_neg (by omega),qD h.lg,qa,qD h.it,qa,qjX ⟨hT,h.ac.lt,h.ov.lt⟩,qa,qiA,qm,qH (by simp;omega),qa,upd_ok hs,qa]
     have hst:=h.stay (Stay.snoc X (jq id S.now_))
     have hX:idx (X++[jq id S.now_]) (X.length:Int)=some (jq id S.now_):=qcU
     have hnx:∀ x∈S.active_,x≠(X.length:Int):=fun x hx e=>by have:=h.ac.lt x hx;omega
     have hok:=qiz (id:=id) (now:=S.now_) (by omega) (by omega) hn0
     refine ⟨rfl,by omega,by omega,⟨h.lg,h.it,h.vs,hn0,h.n1,fun x hx=>?_,?_,?_,?_,hst.ov,h.ol,?_⟩,g3⟩
     ·rcases List.mem_append.1 hx with hx | hx
      ·exact hst.ac x hx
      ·rw [List.mem_singleton.1 hx];exact ⟨_,hX,hok⟩
     ·
      have hids:(S.active_.map fun x=>(kX X x).id_).Nodup:=by
       rw [List.Nodup,List.pairwise_map]
       refine List.pairwise_iff_forall_sublist.2 fun {x y} hsub e=>?_
       have hx:=hsub.subset (show x∈[x,y] by simp)
       have hy:=hsub.subset (show y∈[x,y] by simp)
       obtain ⟨t,ht,_⟩:=h.ac x hx
       obtain ⟨u,hu,_⟩:=h.ac y hy
       rw [xj ht,xj hu] at e
       exact List.pairwise_iff_forall_sublist.1 h.an hsub (h.ai x hx y hy t u ht hu e)
      have hall:((S.active_.map fun x=>(kX X x).id_)++[id]).Nodup:=by
       rw [List.nodup_append]
       refine ⟨hids,by simp,fun a ha b hb e=>?_⟩
       rw [List.mem_singleton.1 hb] at e
       obtain ⟨x,hx,rfl⟩:=List.mem_map.1 ha
       obtain ⟨t,ht,_⟩:=h.ac x hx
       rw [xj ht] at e
       exact g3 x hx t ht e
      have:=xm 12 _ hall fun x hx=>by
       rcases List.mem_append.1 hx with hx | hx
       ·obtain ⟨y,hy,rfl⟩:=List.mem_map.1 hx
        obtain ⟨t,ht,hk⟩:=h.ac y hy
        rw [xj ht]
        exact ⟨hk.i0,hk.i1⟩
       ·rw [List.mem_singleton.1 hx];omega
      simpa [qg0] using this
     ·show (S.active_++[(X.length:Int)]).Nodup
      rw [List.nodup_append]
      exact ⟨h.an,by simp,fun a ha b hb e=>hnx a ha (by rw [e,List.mem_singleton.1 hb])⟩
     ·intro x hx y hy t u ht hu hi
      rcases List.mem_append.1 hx with hx | hx <;> rcases List.mem_append.1 hy with hy | hy
      ·exact hst.ai x hx y hy t u ht hu hi
      ·rw [List.mem_singleton.1 hy,hX,Option.some.injEq] at hu
       obtain ⟨t0,ht0,_⟩:=h.ac x hx
       rw [js ht0,Option.some.injEq] at ht
       subst ht
       subst hu
       exact absurd hi (g3 x hx t0 ht0)
      ·rw [List.mem_singleton.1 hx,hX,Option.some.injEq] at ht
       obtain ⟨u0,hu0,_⟩:=h.ac y hy
       rw [js hu0,Option.some.injEq] at hu
       subst ht
       subst hu
       exact absurd hi.symm (g3 y hy u0 hu0)
      ·rw [List.mem_singleton.1 hx,List.mem_singleton.1 hy]
     ·intro x hx hm
      rcases List.mem_append.1 hx with hx | hx
      ·exact h.ao x hx hm
      ·have:=h.ov.lt x hm
       rw [List.mem_singleton.1 hx] at this
       omega
structure Kin (t u:Ttx):Prop where
 i:u.id_=t.id_
 f:u.from_=t.from_
 a:u.at_=t.at_
 n:u.in_=t.in_
 o:u.out_=t.out_
 ok:∀ now,TxOk now t→TxOk now u
theorem qis (hs:idx T s=some S) (h:StOk S X) (id item:Int):(∃ e,M7 s id item T X=some (X,[],e)∧e≠0) ∨
  ∃ a t u x l,a∈S.active_∧idx X a=some t∧t.id_=id∧0≤item∧item < 20∧M7 s id item T X=some (X.set a.toNat u,x,0)∧Kin t u∧u.writes_=t.writes_∧u.texts_=t.texts_∧(∀ k∈t.reads_,k∈u.reads_)∧idx S.items_ item=some l ∧
   ((item∈t.writes_∧x=qW t item)∨(item ∉ t.writes_∧item∈u.reads_∧x=rdv l t.from_)):=by
 obtain ⟨k,e,g1,g2⟩:=qlp hs h id item
 rw [M7,hs,qa,g1,qm,qa]
 rcases g2 with ⟨rfl,_,hk0,hk,hi0,hi1,t,ht,hid⟩ | g2
 ·right
  obtain ⟨t',ht',htk⟩:=h.ac k hk
  rw [ht,Option.some.injEq] at ht'
  subst ht'
  have hr:=htk.r
  obtain ⟨l,hl1,hl2⟩:=qb5 h.it hi0 hi1
  have hv:=h.vs l (qb3 hl2)
  have k1:∀ X' u,idx X' k=some u→u.from_=t.from_→ql4 T s k item X'=some (X',rdv l t.from_,0):=by
   intro X' u hu hf
   obtain ⟨b,hx⟩:=qkF l u.from_ (by have:=hv.n;omega)
   rw [ql4,hs,qa,hu,qa,hl1,qa,qD h.lg,qa,hx,qm,hf]
  have hself:Kin t t:=⟨rfl,rfl,rfl,rfl,rfl,fun _ h=>h⟩
  rw [if_neg (by simp),ht,qa,qcV _ (by have:=htk.w.1;omega),qa]
  by_cases cw:item∈t.writes_
  ·rw [if_pos (by simpa using cw),(xi htk hi0 hi1).1,qa]
   exact ⟨k,t,t,_,l,hk,ht,hid,hi0,hi1,by rw [zS ht],hself,rfl,rfl,fun _ h=>h,hl2,.inl ⟨cw,rfl⟩⟩
  ·rw [if_neg (by simpa using cw),qcV _ (by omega),qa]
   by_cases c:item∈t.reads_
   ·rw [if_pos (by simpa using c)]
    exact ⟨k,t,t,_,l,hk,ht,hid,hi0,hi1,by rw [zS ht,k1 X t ht rfl],hself,rfl,rfl,fun _ h=>h,hl2,.inr ⟨cw,c,rfl⟩⟩
   ·rw [if_neg (by simpa using c),qH (by simp;omega),qa,upd_ok ht,qa]
    refine ⟨k,t,⟨t.id_,t.from_,t.at_,t.reads_++[item],t.writes_,t.texts_,t.in_,t.out_⟩,_,l,hk,ht,hid,hi0,hi1,k1 _ _ (qq ht) rfl,⟨rfl,rfl,rfl,rfl,rfl,fun now hh=>?_⟩,rfl,rfl,fun q hq=>List.mem_append_left _ hq,hl2,.inr ⟨cw,by simp,rfl⟩⟩
    have hnd:(t.reads_++[item]).Nodup:=by
     rw [List.nodup_append]
     exact ⟨hh.r.2.1,by simp,fun a ha b hb e=>c (by rw [← List.mem_singleton.1 hb,← e];exact ha)⟩
    have hin:∀ k∈t.reads_++[item],0≤k∧k < 20:=fun k hk=>by
     rcases List.mem_append.1 hk with hk | hk
     ·exact hh.r.2.2 k hk
     ·rw [List.mem_singleton.1 hk];exact ⟨hi0,hi1⟩
    exact ⟨hh.i0,hh.i1,hh.f0,hh.f1,⟨xm 20 _ hnd hin,hnd,hin⟩,hh.w,hh.t20,hh.tl⟩
 ·left
  have he:e≠0:=by omega
  rw [if_pos he]
  exact ⟨e,rfl,he⟩
theorem qh2 (hs:idx T s=some S) (h:StOk S X) (id item:Int) (x:List UInt8) :
  (∃ e,M9 s id item x T X=some (X,e)∧e≠0) ∨
  ∃ a t u,M9 s id item x T X=some (X.set a.toNat u,0)∧a∈S.active_∧idx X a=some t∧t.id_=id∧0≤item∧item < 20∧Kin t u∧u.reads_=t.reads_∧(∀ k,k∈u.writes_↔k∈t.writes_∨k=item)∧u.texts_=t.texts_.set item.toNat x:=by
 obtain ⟨k,e,g1,g2⟩:=qlp hs h id item
 rw [M9,hs,qa,g1,qm,qa]
 rcases g2 with ⟨rfl,_,hk0,hk,hi0,hi1,t,ht,hid⟩ | g2
 ·obtain ⟨t',ht',htk⟩:=h.ac k hk
  rw [ht,Option.some.injEq] at ht'
  subst ht'
  rw [if_neg (by simp)]
  by_cases cl:20 < (x.length:Int)
  ·rw [if_pos cl];exact .inl ⟨2,rfl,by decide⟩
  ·right
   have hx20:=htk.t20
   have hup:upd t.texts_ item x=some (t.texts_.set item.toNat x):=by
    obtain ⟨y,hy1,hy2⟩:=qb5 hx20 hi0 hi1
    exact upd_ok hy2
   have htl:∀ now,TxOk now t→(t.texts_.set item.toNat x).length=20∧∀ y∈t.texts_.set item.toNat x,y.length≤20:=fun now hh=>⟨by simpa using hh.t20,qgi (P:=fun y=>y.length≤20) hh.tl (by omega)⟩
   have hw:=htk.w
   rw [if_neg cl,ht,qa,qcV _ (by omega),qa]
   by_cases c:item∈t.writes_
   ·rw [if_pos (by simpa using c),(xi htk hi0 hi1).1,qa,hup,qa,upd_ok ht,qa]
    refine ⟨k,t,_,rfl,hk,ht,hid,hi0,hi1,⟨rfl,rfl,rfl,rfl,rfl,fun now hh=>⟨hh.i0,hh.i1,hh.f0,hh.f1,hh.r,hh.w,(htl now hh).1,(htl now hh).2⟩⟩,rfl,fun q=>⟨.inl,fun hq=>hq.elim (fun h=>h) fun e=>by rw [e];exact c⟩,rfl⟩
   ·rw [if_neg (by simpa using c),qH (by simp;omega),qa,(xi htk hi0 hi1).1,qa,hup,qa,upd_ok ht,qa]
    refine ⟨k,t,_,rfl,hk,ht,hid,hi0,hi1,⟨rfl,rfl,rfl,rfl,rfl,fun now hh=>?_⟩,rfl,fun q=>by simp,rfl⟩
    have hnd:(t.writes_++[item]).Nodup:=by
     rw [List.nodup_append]
     exact ⟨hh.w.2.1,by simp,fun a ha b hb e=>c (by rw [← List.mem_singleton.1 hb,← e];exact ha)⟩
    have hin:∀ k∈t.writes_++[item],0≤k∧k < 20:=fun k hk=>by
     rcases List.mem_append.1 hk with hk | hk
     ·exact hh.w.2.2 k hk
     ·rw [List.mem_singleton.1 hk];exact ⟨hi0,hi1⟩
    exact ⟨hh.i0,hh.i1,hh.f0,hh.f1,hh.r,⟨xm 20 _ hnd hin,hnd,hin⟩,(htl now hh).1,(htl now hh).2⟩
 ·have he:e≠0:=by omega
  rw [if_pos he]
  exact .inl ⟨e,rfl,he⟩
end
end Go.Proofs.YtdlemoeinjihkaaGreatDoor
end
section
namespace Go.Proofs.YtdlemoeinjihkaaGreatDoor
open Go.S
def fi (x:Int):Int→List Int→Int
 | _,[]=>-1
 | i,y :: r=>if x=y then i else fi x (i+1) r
theorem qon (l:List Int) (x:Int) (hl:l.length≤1000000000000):∀ (r i:Nat),i+r=l.length→∀ n,r < n→jw l x n (i:Int)=some (fi x (i:Int) (l.drop i)):=by
 intro r
 induction r with
 | zero =>
  intro i hi n hn
  obtain ⟨n,rfl⟩:=dec n hn
  rw [jw,kK,if_neg (by omega),qeL,List.drop_eq_nil_of_le (by omega),fi]
 | succ r ih =>
  intro i hi n hn
  obtain ⟨n,rfl⟩:=dec n (by omega)
  have h1:i < l.length:=by omega
  rw [jw,kK,if_pos (by omega),qk h1,qa,qo h1,fi]
  by_cases c:x=l[i]
  ·rw [if_pos c,if_pos c]
  ·rw [if_neg c,if_neg c,qr i (by omega),qa,ih (i+1) (by omega) n (by omega)]
   rfl
theorem qcT (l:List Int) (x:Int) (hl:l.length≤1000000000000):M41 l x=some (fi x 0 l):=by
 have h:=qon l x hl l.length 0 (by omega) big (qK (by omega))
 rw [show ((0:Nat):Int)=0 from rfl,List.drop_zero] at h
 rw [M41,h]
theorem vL (x:Int):∀ (l:List Int) (i:Int),(fi x i l=-1∧x ∉ l)∨∃ j:Nat,fi x i l=i+j∧l[j]?=some x∧x ∉ l.take j
 | [],i=>.inl ⟨rfl,by simp⟩
 | y :: l,i=>by
  rw [fi]
  by_cases c:x=y
  ·rw [if_pos c];exact .inr ⟨0,by simp,by simp [c],by simp⟩
  ·rw [if_neg c]
   rcases vL x l (i+1) with ⟨h1,h2⟩ | ⟨j,h1,h2,h3⟩
   ·exact .inl ⟨h1,by simp [c,h2]⟩
   ·exact .inr ⟨j+1,by rw [h1];omega,by simpa using h2,by simp [c,h3]⟩
theorem qmP (x:Int) (l:List Int):0≤fi x 0 l↔x∈l:=by
 rcases vL x l 0 with ⟨h1,h2⟩ | ⟨j,h1,h2,_⟩
 ·rw [h1];simp [h2]
 ·rw [h1]
  constructor
  ·intro _;exact List.mem_of_getElem? h2
  ·intro _;omega
theorem jv (l:List Int) (x:Int) (hl:l.length≤1000000000000):M19 l x=some (decide (x∈l)):=by
 rw [M19,qcT l x hl,qa]
 congr 1
 rw [decide_eq_decide]
 exact qmP x l
def isT (s:TStory) (w:Int):Bool:=s.Tales.any fun t=>decide (t.Tx=w)
theorem v7 {l:List TTale} {k:Nat} (h:k < l.length) (w:Int):(l.drop k).any (fun t=>decide (t.Tx=w))=(decide (l[k].Tx=w) || (l.drop (k+1)).any fun t=>decide (t.Tx=w)):=by rw [qo h,List.any_cons]
theorem qpB (s:TStory) (hs:s.Tales.length≤12) (w:Int) (gx2:Int) (go2:Int→Option Int):∀ (r k:Nat),k+r=s.Tales.length→∀ n,r < n →
  y4 s w gx2 go2 n (k:Int)=qhs gx2 go2 ((s.Tales.drop k).any fun t=>decide (t.Tx=w)):=by
 intro r
 induction r with
 | zero =>
  intro k hk n hn
  obtain ⟨n,rfl⟩:=dec n hn
  rw [y4,qdy,if_neg (by omega),qji,qeV,List.drop_eq_nil_of_le (by omega)]
  rfl
 | succ r ih =>
  intro k hk n hn
  obtain ⟨n,rfl⟩:=dec n (by omega)
  have h1:k < s.Tales.length:=by omega
  rw [y4,qdy,if_pos (by omega),qk h1,qa,qjh,v7 h1]
  by_cases c:s.Tales[k].Tx=w
  ·rw [if_pos (by simp [c]),qeV,decide_eq_true (show (0:Int)≤k by omega),decide_eq_true c,Bool.true_or]
  ·rw [if_neg (by simp [c]),qr k (by omega),qa,ih (k+1) (by omega) n (by omega),decide_eq_false c,Bool.false_or]
structure Lim (s:TStory):Prop where
 rd:∀ t∈s.Tales,t.Reads.length≤1048576
 vs:∀ l∈s.Versions,l.length≤1048576
structure qjt (s:TStory) (t:TTale) (g:TGot):Prop where
 i0:0≤g.Item
 i1:g.Item < s.Versions.length
 ne:g.From≠t.Tx
 src:g.From=-1∨∀ l,idx s.Versions g.Item=some l→g.From∈l
structure qnb (s:TStory) (l:List Int):Prop where
 tale:∀ w∈l,isT s w=true
 once:∀ j (h:j < l.length),l[j] ∉ l.take j
structure qbu (s:TStory):Prop where
 nt:s.Tales.length≤12
 nv:s.Versions.length≤20
 tx:∀ t∈s.Tales,0≤t.Tx∧t.Tx < 12
 got:∀ t∈s.Tales,∀ g∈t.Reads,qjt s t g
 ver:∀ l∈s.Versions,qnb s l
 inc:∀ q (h:q+1 < s.Tales.length),s.Tales[q].Tx < s.Tales[q+1].Tx
theorem qnR (s:TStory) (hs:s.Tales.length≤12) (l:List Int) (hl:l.length≤1048576) (hv:qnb s l) (gx1:Int) (go1:Int→Option Int):∀ (r j:Nat),j+r=l.length→∀ n,r < n→wz l s gx1 go1 n (j:Int)=qht gx1 go1:=by
 intro r
 induction r with
 | zero =>
  intro j hj n hn
  obtain ⟨n,rfl⟩:=dec n hn
  rw [wz,qdz,if_neg (by omega)]
 | succ r ih =>
  intro j hj n hn
  obtain ⟨n,rfl⟩:=dec n (by omega)
  have hjl:j < l.length:=by omega
  have h4:=qpB s hs l[j] (j:Int) (wz l s gx1 go1 n) s.Tales.length 0 (by omega) big (qK (by omega))
  rw [show ((0:Nat):Int)=0 from rfl,List.drop_zero] at h4
  have h5:(s.Tales.any fun t=>decide (t.Tx=l[j]))=true:=hv.tale _ (List.getElem_mem hjl)
  rw [wz,qdz,if_pos (by omega),qk hjl,qa,vk l j (by omega),qa,jv _ _ (by rw [List.length_take];omega),qa,if_neg (by simp [hv.once j hjl]),h4,h5,qhs,if_pos rfl,qr j (by omega),qa]
  exact ih (j+1) (by omega) n (by omega)
theorem qnS (s:TStory) (h:qbu s) (hlim:Lim s):∀ (r i:Nat),i+r=s.Versions.length→∀ n,r < n→wA s n (i:Int)=some 0:=by
 intro r
 induction r with
 | zero =>
  intro i hi n hn
  obtain ⟨n,rfl⟩:=dec n hn
  rw [wA,qdA,if_neg (by omega),qjj]
 | succ r ih =>
  intro i hi n hn
  obtain ⟨n,rfl⟩:=dec n (by omega)
  have hil:i < s.Versions.length:=by omega
  have hm:=List.getElem_mem hil
  have hnv:=h.nv
  have hvl:=hlim.vs _ hm
  have h4:=qnR s h.nt s.Versions[i] hvl (h.ver _ hm) (i:Int) (wA s n) s.Versions[i].length 0 (by omega) big (qK (by omega))
  rw [show ((0:Nat):Int)=0 from rfl] at h4
  rw [wA,qdA,if_pos (by omega),qk hil,qa,h4,qht,qr i (by omega),qa]
  exact ih (i+1) (by omega) n (by omega)
theorem qpt (s:TStory) (hlim:Lim s) (hv:s.Versions.length≤20) (t:TTale) (ht:t∈s.Tales) (hok:∀ g∈t.Reads,qjt s t g) (gx6:Int) (go4:Int→Option Int):∀ (r j:Nat),j+r=t.Reads.length→∀ n,r < n→y3 t s gx6 go4 n (j:Int)=qhr gx6 go4:=by
 have hrl:=hlim.rd t ht
 intro r
 induction r with
 | zero =>
  intro j hj n hn
  obtain ⟨n,rfl⟩:=dec n hn
  rw [y3,qdw,if_neg (by omega)]
 | succ r ih =>
  intro j hj n hn
  obtain ⟨n,rfl⟩:=dec n (by omega)
  have hjl:j < t.Reads.length:=by omega
  have g0:=hok _ (List.getElem_mem hjl)
  have hg:=g0.i0
  have hg1:=g0.i1
  rw [y3,qdw,if_pos (by omega),qk hjl,qa,if_neg (by omega),if_neg (by omega),yb,if_neg ff,if_neg g0.ne]
  have hnext:=ih (j+1) (by omega) n (by omega)
  by_cases c4:t.Reads[j].From≠-1
  ·obtain ⟨q,hq⟩:=Int.eq_ofNat_of_zero_le hg
   have hql:q < s.Versions.length:=by omega
   have hqv:=hlim.vs _ (List.getElem_mem hql)
   have hin:t.Reads[j].From∈s.Versions[q]:=by
    rcases g0.src with e | e
    ·exact absurd e c4
    ·exact e _ (by rw [hq];exact qk hql)
   rw [if_pos c4,hq,qk hql,qa,jv _ _ (by omega),qa,if_pos (by simp [hin]),qr j (by omega),qa]
   exact hnext
  ·rw [if_neg c4,qr j (by omega),qa]
   exact hnext
theorem qkt (s:TStory) (h:qbu s) (hlim:Lim s):∀ (r i:Nat),i+r=s.Tales.length→∀ n,r < n→wa s n (i:Int)=some 0:=by
 have hs:=h.nt
 have hnv:=h.nv
 intro r
 induction r with
 | zero =>
  intro i hi n hn
  obtain ⟨n,rfl⟩:=dec n hn
  have h4:=qnS s h hlim s.Versions.length 0 (by omega) big (qK (by omega))
  rw [show ((0:Nat):Int)=0 from rfl] at h4
  rw [wa,qdx,if_neg (by omega),qjk]
  exact h4
 | succ r ih =>
  intro i hi n hn
  obtain ⟨n,rfl⟩:=dec n (by omega)
  have hil:i < s.Tales.length:=by omega
  have hm:=List.getElem_mem hil
  have htx:=h.tx _ hm
  have hrl:=hlim.rd _ hm
  have h5:=qpt s hlim h.nv _ hm (h.got _ hm) (i:Int) (wa s n) s.Tales[i].Reads.length 0 (by omega) big (qK (by omega))
  rw [show ((0:Nat):Int)=0 from rfl] at h5
  have hnext:qeU s.Tales[i] s (i:Int) (wa s n)=some 0:=by
   rw [qeU,h5,qhr,qr i (by omega),qa]
   exact ih (i+1) (by omega) n (by omega)
  rw [wa,qdx,if_pos (by omega),qk hil,qa,if_neg (by omega),if_neg (by omega)]
  by_cases c3:i=0
  ·rw [if_neg (by omega)];exact hnext
  ·have h6:i - 1 < s.Tales.length:=by omega
   have h7:s.Tales[i - 1].Tx < s.Tales[i].Tx:=by
    have:=h.inc (i - 1) (by omega)
    have e:s.Tales[i - 1+1]'(by omega)=s.Tales[i]:=by congr 1;omega
    rw [e] at this
    exact this
   rw [if_pos (by omega:(0:Int) < (i:Int)),qiI i (by omega) (by omega),qa,qk h6,qa,if_neg (by omega)]
   exact hnext
theorem qaQ {s:TStory} (h:qbu s) (hlim:Lim s):M28 s=some 0:=by
 have h1:=h.nt
 have h2:=h.nv
 rw [M28,if_neg (by omega),if_neg (by omega)]
 have h:=qkt s h hlim s.Tales.length 0 (by omega) big (qK (by omega))
 rw [show ((0:Nat):Int)=0 from rfl] at h
 exact h
end Go.Proofs.YtdlemoeinjihkaaGreatDoor
end
