import Derived.Test.YtloiiohoelhldaaGreatDoorSpM
import Derived.Test.YtloiiohoelhldaaGreatDoorZa
set_option linter.unusedVariables false
set_option linter.unusedSimpArgs false
section
namespace Go.Proofs.YtloiiohoelhldaaGreatDoor
open Go.S
def ofD:List Nat→Nat
 | []=>0
 | d::l=>d+128*ofD l
theorem wh:∀(a b:List Nat),ofD (a++b)=ofD a+128 ^ a.length*ofD b
 | [],b=>by simp[ofD]
 | d::a,b=>by
  simp only[List.cons_append,ofD,wh a b,List.length_cons,Nat.pow_succ,Nat.mul_add]
  rw[Nat.mul_comm (128 ^ a.length) 128,Nat.mul_assoc,Nat.add_assoc]
theorem qjR:∀(l:List Nat),(∀d∈l,d<128)→ofD l<128 ^ l.length
 | [],_=>by simp[ofD]
 | d::l,h=>by
  have h1:=qjR l (fun x hx=>h x (by simp[hx]))
  have h2:=h d (by simp)
  simp only[ofD,List.length_cons,Nat.pow_succ]
  omega
def dig(s:List UInt8):List Nat:=s.map fun b=>b.toNat%128
theorem qmn(s:List UInt8):∀d∈dig s,d<128:=by
 intro d hd
 simp only[dig,List.mem_map]at hd
 obtain⟨b,_,rfl⟩:=hd
 exact Nat.mod_lt _ (by decide)
theorem ko(s:List UInt8):(dig s).length=s.length:=by simp[dig]
theorem qlN(s:List UInt8):ofD (dig s)<128 ^ s.length:=by
 have:=qjR _ (qmn s)
 rwa [ko]at this
theorem qfY(a b:List UInt8):dig (a++b)=dig a++dig b:=by simp[dig]
def pv(s:List UInt8)(i:Nat):Nat:=ofD (dig (s.take i))
theorem qgR{s:List UInt8}{i:Nat}{b:UInt8}(h:s[i]?=some b):pv s (i+1)=pv s i+b.toNat%128*128 ^ i:=by
 have hi:=(List.getElem?_eq_some_iff.1 h).1
 have h1:s.take (i+1)=s.take i++[b]:=by
  rw[List.take_succ_eq_append_getElem hi]
  rw[List.getElem?_eq_getElem hi,Option.some.injEq]at h
  rw[h]
 unfold pv
 rw[h1,qfY,wh,ko,List.length_take,Nat.min_eq_left (Nat.le_of_lt hi),Nat.mul_comm (128 ^ i)]
 simp[dig,ofD]
theorem qkC(s:List UInt8)(i:Nat)(hi:i≤s.length):pv s i<128 ^ i:=by
 have:=qlN (s.take i)
 rwa [List.length_take,Nat.min_eq_left hi]at this
theorem qkB{s:List UInt8}{i:Nat}{b:UInt8}(h:s[i]?=some b)(h9:i≤9)(hb:i=9→b.toNat≤1):pv s (i+1)<18446744073709551616∧b.toNat%128*128 ^ i<18446744073709551616:=by
 have hi:=(List.getElem?_eq_some_iff.1 h).1
 have h1:=qkC s (i+1) hi
 have h2:=qgR h
 have h3:=qkC s i (Nat.le_of_lt hi)
 by_cases h':i=9
 ·subst h'
  have:=hb rfl
  omega
 ·have h4:128 ^ (i+1)≤128 ^ 9:=Nat.pow_le_pow_right (by decide) (by omega)
  have h5:(128:Nat) ^ 9=9223372036854775808:=by decide
  omega
theorem qct(i:Nat):2 ^ (7*i)=128 ^ i:=by rw[Nat.pow_mul]
theorem qgQ(s:List UInt8)(x:Nat)(hx:x+1≤s.length)(hl:s.length≤9223372036854775807)(hv:pv s (x+1)<18446744073709551616):∀(k:Nat),k≤x+1→∀n,k<n →
  qby s (x:Int) n (ofD ((dig (s.take (x+1))).drop k):Nat) ((k:Int)-1)=some (((pv s (x+1):Nat):Int),(x:Int)+1,0)
 | 0,_,n+1,_=>by
  simp only[qby,qeR,qjh]
  rw[if_neg (by omega),qk (by omega) (by omega)]
  simp[pv]
 | k+1,hk,n+1,hn=>by
  have hi:k<s.length:=by omega
  have hb:s[k]?=some s[k]:=List.getElem?_eq_getElem hi
  have hd:(dig (s.take (x+1))).drop k=(s[k].toNat%128)::(dig (s.take (x+1))).drop (k+1):=by
   have hlt:k<(dig (s.take (x+1))).length:=by rw[ko,List.length_take];omega
   rw[List.drop_eq_getElem_cons hlt]
   simp[dig]
  have hle:ofD ((dig (s.take (x+1))).drop k)≤pv s (x+1):=by
   unfold pv
   have:=wh ((dig (s.take (x+1))).take k) ((dig (s.take (x+1))).drop k)
   rw[List.take_append_drop]at this
   have h1:1*ofD ((dig (s.take (x+1))).drop k)≤128 ^ ((dig (s.take (x+1))).take k).length*ofD ((dig (s.take (x+1))).drop k):=Nat.mul_le_mul_right _ (Nat.one_le_pow _ _ (by decide))
   omega
  have ih:=qgQ s x hx hl hv k (by omega) n (by omega)
  simp only[qby,qeR]
  rw[if_pos (by omega),show((k+1:Nat):Int)-1=(k:Int) by omega,xi hb,qa,show(128:Int)=((128:Nat):Int) by rfl,zk _ _ (by decide),qa,qk (by omega) (by omega),qa]
  rw[hd]at ih hle
  simp only[ofD]at ih hle
  have e:IntKind.wrap .u64 (IntKind.wrap .u64 (((ofD ((dig (s.take (x+1))).drop (k+1)):Nat):Int)*((128:Nat):Int))+IntKind.wrap .u64 ((s[k].toNat%128:Nat):Int))=((s[k].toNat%128+128*ofD ((dig (s.take (x+1))).drop (k+1)):Nat):Int):=by
   rw[qF,qF,qF]
   omega
  rw[e]
  exact ih
structure Got(s:List UInt8)(n k e:Int):Prop where
 n0:0≤n
 n1:n<18446744073709551616
 k0:0≤k
 k1:k≤s.length
 k2:e=0→1≤k
theorem qho(s:List UInt8)(hl:s.length≤9223372036854775807):∀(r i:Nat),i+r=s.length→i≤9→∀n n',r<n→r<n' →
  ∃a k e,wS s n (pv s i:Nat) (i:Int)=some (a,k,e)∧wR s n' (i:Int)=some (a,k,e)∧Got s a k e
 | 0,i,hi,h9,n+1,n'+1,_,_=>by
  refine⟨0,0,3,?_,?_,⟨by omega,by omega,by omega,by omega,by omega⟩⟩
  ·simp only[wS,qeT,qjk];rw[if_neg (by omega)]
  ·simp only[wR,qeS,qjj];rw[if_neg (by omega)]
 | r+1,i,hi,h9,n+1,n'+1,hn,hn'=>by
  have hil:i<s.length:=by omega
  have hb:s[i]?=some s[i]:=List.getElem?_eq_getElem hil
  generalize hbe:s[i]=b at hb
  simp only[wS,qeT,wR,qeS,xi hb,qa]
  rw[if_pos (show(i:Int)<s.length by omega),if_pos (show(i:Int)<s.length by omega)]
  have hbl:b.toNat<256:=b.toNat_lt
  by_cases hbig:i=9∧1<b.toNat
  ·refine⟨0,0,2,?_,?_,⟨by omega,by omega,by omega,by omega,by omega⟩⟩
   ·rw[if_pos (by omega),if_pos (by omega)]
   ·rw[if_pos (by omega),if_pos (by omega)]
  ·have e1:(if(i:Int)=9 then if(1:Int)<(b.toNat:Nat) then some ((0:Int),(0:Int),(2:Int)) else qc1 (i:Int) (b.toNat:Nat) (pv s i:Nat) (wS s n) else qc1 (i:Int) (b.toNat:Nat) (pv s i:Nat) (wS s n))=qc1 (i:Int) (b.toNat:Nat) (pv s i:Nat) (wS s n):=by
    split
    ·rw[if_neg (by omega)]
    ·rfl
   have e2:(if(i:Int)=9 then if(1:Int)<(b.toNat:Nat) then some ((0:Int),(0:Int),(2:Int)) else qc0 s (i:Int) (wR s n') else qc0 s (i:Int) (wR s n'))=qc0 s (i:Int) (wR s n'):=by
    split
    ·rw[if_neg (by omega)]
    ·rfl
   rw[e1,e2]
   obtain⟨hp1,hp2⟩:=qkB hb h9 (fun h=>by omega)
   have hps:=qgR hb
   have hand:IntKind.wrap .u64 (Go.bits .and .u8 ((b.toNat:Nat):Int) 127)=((b.toNat%128:Nat):Int):=by
    rw[show(127:Int)=((127:Nat):Int) by rfl,wE .u8 rfl _ _ (by simpa [IntKind.bits]using hbl) (by decide),qmy,zn .u64 rfl _ (by rw[p64];omega)]
   have hsh:qgu .u64 ((b.toNat%128:Nat):Int) (7*(i:Int))=some ((b.toNat%128*128 ^ i:Nat):Int):=by
    rw[show(7*(i:Int))=((7*i:Nat):Int) by push_cast;rfl,qek _ _ (by omega) (by rw[qct];exact hp2),qct]
   have hor:Go.bits .or .u64 ((pv s i:Nat):Int) ((b.toNat%128*128 ^ i:Nat):Int)=((pv s (i+1):Nat):Int):=by
    rw[vo .u64 rfl _ _ (by rw[p64];omega) (by rw[p64];exact hp2),←qct,qg1 _ _ _ (by rw[qct];exact qkC s i (by omega)),qct,←hps]
   simp only[qc1,qk (show -9223372036854775808≤7*(i:Int) by omega) (by omega),qk (show -9223372036854775808≤(i:Int)+1 by omega) (by omega),qa,hand,hsh,hor]
   simp only[qc0,xi hb,qa]
   by_cases h128:b.toNat<128
   ·rw[if_pos (show((b.toNat:Nat):Int)<128 by omega),if_neg (show ¬(128:Int)≤(b.toNat:Nat) by omega)]
    by_cases hz:b.toNat=0∧0<i
    ·refine⟨0,0,4,?_,?_,⟨by omega,by omega,by omega,by omega,by omega⟩⟩
     ·rw[if_pos (by omega),if_pos (by omega)]
     ·rw[if_pos (by omega),if_pos (by omega)]
    ·refine⟨(pv s (i+1):Nat),(i:Int)+1,0,?_,?_,⟨by omega,by omega,by omega,by omega,by omega⟩⟩
     ·split
      ·rw[if_neg (by omega)]
      ·rfl
     ·have:qf6 s (i:Int)=some (((pv s (i+1):Nat):Int),(i:Int)+1,0):=by
       have:=qgQ s i (by omega) hl hp1 (i+1) (Nat.le_refl _) big (by rw[qv];omega)
       rw[List.drop_eq_nil_of_le (by rw[ko,List.length_take];omega)]at this
       simpa [qf6,ofD]using this
      rw[this]
      split
      ·rw[if_neg (by omega)]
      ·rfl
   ·have h9':i≠9:=by
     intro h
     exact hbig ⟨h,by omega⟩
    obtain⟨a,k,e,h1,h2,h3⟩:=qho s hl r (i+1) (by omega) (by omega) n n' (by omega) (by omega)
    refine⟨a,k,e,?_,?_,h3⟩
    ·rw[if_neg (by omega)]
     exact_mod_cast h1
    ·rw[if_pos (by omega)]
     simp only[qji,qk (show -9223372036854775808≤(i:Int)+1 by omega) (by omega),qa]
     exact_mod_cast h2
theorem qhn(s:List UInt8)(hl:s.length≤9223372036854775807):∃a k e,M83 s=some (a,k,e)∧M91 s=some (a,k,e)∧Got s a k e:=by
 obtain⟨a,k,e,h1,h2,h3⟩:=qho s hl s.length 0 (by omega) (by omega) big big (by rw[qv];omega) (by rw[qv];omega)
 exact⟨a,k,e,by simpa [M83,pv,dig,ofD]using h1,by simpa [M91]using h2,h3⟩
theorem qmf(s:List UInt8)(hl:s.length≤9223372036854775807):∃a k e,M47 s=some (a,k,e)∧M53 s=some (a,k,e)∧-9223372036854775808≤a∧a≤9223372036854775807∧0≤k∧k≤s.length∧(e=0→1≤k):=by
 obtain⟨a,k,e,h1,h2,h3⟩:=qhn s hl
 have hk0:=h3.k0
 have hk1:=h3.k1
 simp only[M47,M53,h1,h2,qg]
 by_cases he:e=0
 ·subst he
  obtain⟨n,rfl⟩:=Int.eq_ofNat_of_zero_le h3.n0
  have hn:=h3.n1
  have hn':n<18446744073709551616:=by omega
  rw[if_neg (by simp),if_neg (by simp)]
  rw[show(1:Int)=((1:Nat):Int) by rfl,qa4 _ _ (by decide),qa,wE .u64 rfl _ _ (by rw[p64];exact hn') (by decide),qow]
  rw[show(2:Int)=((2:Nat):Int) by rfl,zk _ _ (by decide),qa,qeI _ _ (by decide) hn',Nat.pow_one]
  by_cases ho:n%2=1
  ·simp only[ho,if_true,qa]
   have e:IntKind.wrap .i64 ((18446744073709551615-n/2:Nat):Int)=-((n/2:Nat):Int)-((1:Nat):Int):=by
    rw[qfJ (by omega) (by omega)];omega
   rw[qeK _ (by omega),e,xk (x:=((n/2:Nat):Int)) (by omega) (by omega),xk (by omega) (by omega),qk (by omega) (by omega),qa]
   exact⟨_,_,_,rfl,rfl,by omega,by omega,hk0,hk1,h3.k2⟩
  ·rw[if_neg (by omega),if_neg (by omega)]
   simp only[qa]
   refine⟨_,_,_,rfl,rfl,?_,?_,hk0,hk1,h3.k2⟩
   ·rw[xk (by omega) (by omega)];omega
   ·rw[xk (by omega) (by omega)];omega
 ·rw[if_pos (by simpa using he),if_pos (by simpa using he)]
  exact⟨0,0,e,rfl,rfl,by omega,by omega,by omega,by omega,fun h=>absurd h he⟩
def enc:Nat→Nat→List UInt8
 | 0,_=>[]
 | f+1,x=>if x<128 then[UInt8.ofNat x] else UInt8.ofNat (x%128+128)::enc f (x/128)
theorem vn:∀(f x:Nat),(enc f x).length≤f
 | 0,_=>by simp[enc]
 | f+1,x=>by
  simp only[enc]
  split
  ·simp
  ·have:=vn f (x/128);simp;omega
theorem ky(a b:List Int):bytesOf (a++b)=bytesOf a++bytesOf b:=by simp[bytesOf]
theorem xg(x:Nat):bytesOf [(x:Int)]=[UInt8.ofNat x]:=by simp[bytesOf]
theorem qay(x:Nat)(h:x<256):IntKind.wrap .u8 (x:Int)=(x:Int):=by rw[qef];omega
theorem qgT:∀(f x:Nat),x<128 ^ (f+1)→x<18446744073709551616→∀n,f<n→∀(l:List Int),l.length+f≤1000→wK n (x:Int) l=some (bytesOf l++enc (f+1) x)
 | f,x,hx,h64,n+1,hn,l,hl=>by
  simp only[wK,qec,qfE,enc]
  by_cases h:x<128
  ·rw[if_neg (by omega),if_pos h,qE (by simp;omega),qa,qay _ (by omega),ky,xg]
  ·rw[if_pos (by omega),if_neg h,qef,show(x:Int)%256=((x%256:Nat):Int) by omega,show(128:Int)=((128:Nat):Int) by rfl,vo .u8 rfl _ _ (by simp[IntKind.bits];omega) (by decide),qnm _ (Nat.mod_lt _ (by decide)),qE (by simp;omega),qa]
   rw[show(7:Int)=((7:Nat):Int) by rfl,qa4 _ _ (by decide),qa]
   have h7:(2:Nat) ^ 7=128:=by decide
   match f,hx,hn,hl with
   | 0,hx,_,_=>simp at hx;omega
   | f+1,hx,hn,hl =>
    rw[h7,qgT f (x/128) (by rw[Nat.pow_succ]at hx;omega) (by omega) n (by omega) _ (by simp;omega),ky,xg]
    simp[show x%256%128=x%128 by omega]
theorem qgS(x:Nat)(h:x<18446744073709551616):qli (x:Int)=some (enc 10 x):=by
 have:=qgT 9 x (by simp;omega) h big (by rw[qv];omega) [] (by simp)
 simpa [qli,bytesOf]using this
theorem qg5:∀(f x:Nat),x<128 ^ (f+1)→x<18446744073709551616→f<1000→∀n,f<n→qdt n (x:Int)=some (enc (f+1) x)
 | f,x,hx,h64,hf,n+1,hn=>by
  simp only[qdt,qlg,enc]
  by_cases h:x<128
  ·rw[if_pos (by omega),if_pos h,qay _ (by omega),xg]
  ·rw[if_neg (by omega),if_neg h]
   simp only[qfB]
   rw[show(128:Int)=((128:Nat):Int) by rfl,zk _ _ (by decide),qa,qeI _ _ (by decide) h64,qa]
   match f,hx,hf,hn with
   | 0,hx,_,_=>simp at hx;omega
   | f+1,hx,hf,hn =>
    rw[qg5 f (x/128) (by rw[Nat.pow_succ]at hx;omega) (by omega) (by omega) n (by omega),qa]
    have e:IntKind.wrap .u8 (IntKind.wrap .u64 (((x%128:Nat):Int)+((128:Nat):Int)))=((x%128+128:Nat):Int):=by rw[qF,qef];omega
    have hlen:=vn (f+1) (x/128)
    rw[e,xg,qC (by simp;omega),qa]
    rfl
theorem qgP(x:Nat)(h:x<18446744073709551616):qmE (x:Int)=some (enc 10 x):=qg5 9 x (by simp;omega) h (by omega) big (by rw[qv];omega)
theorem qgU(k:Int)(h0 : -9223372036854775808≤k)(h1:k≤9223372036854775807):∃l,M63 k=some l∧M74 k=some l∧l.length≤10:=by
 simp only[M63,M74]
 by_cases hk:k<0
 ·obtain⟨j,hj⟩:=Int.eq_ofNat_of_zero_le (show 0≤-(k+1) by omega)
  have hj':j<9223372036854775808:=by omega
  have e1:IntKind.wrap .u64 k=((18446744073709551615-j:Nat):Int):=by rw[qF];omega
  have e2:qgu .u64 ((18446744073709551615-j:Nat):Int) 1=some ((18446744073709551614-2*j:Nat):Int):=by
   unfold qgu
   rw[if_pos (by simp[IntKind.bits]),qF]
   congr 1
   simp
   omega
  rw[e1,e2,qa,if_pos hk,if_pos hk,qeK _ (by omega),qk (by omega) (by omega),qa,qgS _ (by omega),qa]
  have e3:IntKind.wrap .u64 ((IntKind.wrap .u64 ((IntKind.wrap .u64 (IntKind.wrap .i64 (-(k+1))))*2))+1)=((18446744073709551615-(18446744073709551614-2*j):Nat):Int):=by
   rw[xk (by omega) (by omega),qF,qF,qF];omega
  rw[e3,qgP _ (by omega),qa]
  exact⟨_,rfl,rfl,vn _ _⟩
 ·obtain⟨j,rfl⟩:=Int.eq_ofNat_of_zero_le (show 0≤k by omega)
  have e1:IntKind.wrap .u64 ((j:Nat):Int)=((j:Nat):Int):=by rw[qF];omega
  rw[e1,show(1:Int)=((1:Nat):Int) by rfl,qek _ _ (by decide) (by omega),qa,if_neg hk,if_neg hk,qgS _ (by omega),qa]
  have e3:IntKind.wrap .u64 (((j:Nat):Int)*2)=((j*2 ^ 1:Nat):Int):=by rw[qF];omega
  rw[e3,qgP _ (by omega),qa]
  exact⟨_,rfl,rfl,vn _ _⟩
def pI(k:Int):List UInt8:=(M63 k).getD []
def I64(k:Int):Prop:=-9223372036854775808≤k∧k≤9223372036854775807
theorem yj{k:Int}(h:I64 k):M63 k=some (pI k):=by
 obtain⟨l,h1,_,_⟩:=qgU k h.1 h.2
 unfold pI;rw[h1];rfl
theorem qcw{k:Int}(h:I64 k):M74 k=some (pI k):=by
 obtain⟨l,h1,h2,_⟩:=qgU k h.1 h.2
 unfold pI;rw[h1,h2];rfl
theorem jg{k:Int}(h:I64 k):(pI k).length≤10:=by
 obtain⟨l,h1,_,h3⟩:=qgU k h.1 h.2
 unfold pI;rw[h1];exact h3
structure GI(s:List UInt8)(a k e:Int):Prop where
 p:M47 s=some (a,k,e)
 r:M53 s=some (a,k,e)
 a64:I64 a
 k0:0≤k
 k1:k≤s.length
 k2:e=0→1≤k
theorem gI(s:List UInt8)(hl:s.length≤9223372036854775807):∃a k e,GI s a k e:=by
 obtain⟨a,k,e,h1,h2,h3,h4,h5,h6,h7⟩:=qmf s hl
 exact⟨a,k,e,h1,h2,⟨h3,h4⟩,h5,h6,h7⟩
theorem gT(s:List UInt8)(hl:s.length≤9223372036854775807):∃t k e,M89 s=some (t,k,e)∧M54 s=some (t,k,e)∧(e=0→0≤k∧k≤s.length):=by
 obtain⟨a,k,e,h1,h2,h3⟩:=qhn s hl
 have hn0:=h3.n0
 have hn1:=h3.n1
 have hk0:=h3.k0
 have hk1:=h3.k1
 simp only[M89,M54,h1,h2,qg]
 by_cases he:e≠0
 ·rw[if_pos he,if_pos he];exact⟨_,_,_,rfl,rfl,fun h=>absurd h he⟩
 rw[if_neg he,if_neg he]
 by_cases h4:4096<a
 ·rw[if_pos h4,if_pos h4];exact⟨_,_,_,rfl,rfl,fun h=>by cases h⟩
 rw[if_neg h4,if_neg h4,qk (by omega) (by omega),qa,qa]
 rw[xk (x:=a) (by omega) (by omega),qF,show((s.length:Int)-k)%18446744073709551616=(s.length:Int)-k by omega]
 by_cases h5:(s.length:Int)-k<a
 ·rw[if_pos h5];exact⟨_,_,_,rfl,rfl,fun h=>by cases h⟩
 rw[if_neg h5,qk (by omega) (by omega),qa,qK hk0 (by omega) (by omega),qa,qa]
 exact⟨_,_,_,rfl,rfl,fun _=>⟨by omega,by omega⟩⟩
def pT(s:List UInt8):List UInt8:=enc 10 s.length++s
theorem qgY{s:List UInt8}(h:s.length≤4096):qlF s=some (pT s,0):=by
 have hw:IntKind.wrap .u64 (s.length:Int)=(s.length:Int):=by rw[qF];omega
 have hlen:=vn 10 s.length
 simp only[qlF]
 rw[if_neg (by omega),hw,qgS _ (by omega),qa,qC (by omega),qa];rfl
theorem qjN{s:List UInt8}(h:s.length≤4096):qlD s=some (pT s):=by
 have hw:IntKind.wrap .u64 (s.length:Int)=(s.length:Int):=by rw[qF];omega
 have hlen:=vn 10 s.length
 simp only[qlD]
 rw[hw,qgP _ (by omega),qa,qC (by omega),qa];rfl
theorem qgZ(s:List UInt8):(pT s).length≤s.length+10:=by
 have hlen:=vn 10 s.length
 unfold pT
 rw[List.length_append];omega
end Go.Proofs.YtloiiohoelhldaaGreatDoor
end
section
namespace Go.Proofs.YtloiiohoelhldaaGreatDoor
open Go.S
theorem qkv(s:List UInt8)(hs:s.length≤4294967296):∀(r i:Nat),i+r=s.length→∀(x y u v:Nat),x<65521→y<65521→x%65521=u%65521→(y+r*x)%65521=v%65521→u+255*r<4611686018427387904→v+255*(r*(r+1))<4611686018427387904→∀n n',r<n→r<n' →
  ∃uf vf:Nat,vP s n (x:Int) (y:Int) (i:Int)=qaV ((uf%65521:Nat):Int) ((vf%65521:Nat):Int)∧vO s n' (u:Int) (v:Int) (i:Int)=qaU (uf:Int) (vf:Int):=by
 intro r
 induction r with
 | zero =>
  intro i hi x y u v hx hy h1 h2 h3 h4 n n' hn hn'
  obtain⟨n,rfl⟩:∃q,n=q+1:=⟨n-1,by omega⟩
  obtain⟨n',rfl⟩:∃q,n'=q+1:=⟨n'-1,by omega⟩
  refine⟨u,v,?_,?_⟩
  ·rw[vP,qb4,if_neg (by omega),←h1,Nat.mod_eq_of_lt hx,←h2,Nat.zero_mul,Nat.add_zero,Nat.mod_eq_of_lt hy]
  ·rw[vO,qb3,if_neg (by omega)]
 | succ r ih =>
  intro i hi x y u v hx hy h1 h2 h3 h4 n n' hn hn'
  obtain⟨n,rfl⟩:∃q,n=q+1:=⟨n-1,by omega⟩
  obtain⟨n',rfl⟩:∃q,n'=q+1:=⟨n'-1,by omega⟩
  have hil:i<s.length:=by omega
  have hb:s[i]?=some s[i]:=List.getElem?_eq_getElem hil
  generalize s[i]=b at hb
  have hbl:b.toNat<256:=b.toNat_lt
  generalize hc:b.toNat=c at hbl
  have hmul:c*(r+1)≤255*(r+1):=Nat.mul_le_mul_right _ (by omega)
  have hq:(r+1)*(r+1+1)=r*(r+1)+2*(r+1):=by
   rw[Nat.mul_comm (r+1) (r+1+1),←Nat.add_mul]
  have hdec:v+c*(r+1)+255*(r*(r+1))<4611686018427387904:=by rw[hq]at h4;omega
  have e0:(c+x)%65521<65521:=Nat.mod_lt _ (by decide)
  have hmod:((y+(x+c)%65521)%65521+r*((x+c)%65521))%65521=(v+c*(r+1))%65521:=by
   have e1:(r*((x+c)%65521))%65521=(r*(x+c))%65521:=by rw[Nat.mul_mod,Nat.mod_mod,←Nat.mul_mod]
   have e2:r*(x+c)+(x+c)=(r+1)*x+c*(r+1):=by rw[Nat.mul_add,Nat.succ_mul,Nat.mul_succ,Nat.mul_comm c r];omega
   generalize r*((x+c)%65521)=A at *
   generalize r*(x+c)=B at *
   generalize (r+1)*x=C at *
   generalize c*(r+1)=D at *
   omega
  obtain⟨uf,vf,g1,g2⟩:=ih (i+1) (by omega) ((x+c)%65521) ((y+(x+c)%65521)%65521) (u+c) (v+c*(r+1)) (Nat.mod_lt _ (by decide)) (Nat.mod_lt _ (by decide))
   (by omega) hmod (by omega) hdec n n' (by omega) (by omega)
  refine⟨uf,vf,?_,?_⟩
  ·rw[vP,qb4,if_pos (by omega),xi hb,qa,hc]
   have e1:IntKind.wrap .u32 ((x:Int)+IntKind.wrap .u32 ((c:Nat):Int))=((x+c:Nat):Int):=by rw[qaZ,qaZ];omega
   rw[e1,show(65521:Int)=((65521:Nat):Int) by rfl,zk _ _ (by decide),qa]
   have e2:IntKind.wrap .u32 ((y:Int)+(((x+c)%65521:Nat):Int))=((y+(x+c)%65521:Nat):Int):=by rw[qaZ];omega
   rw[e2,zk _ _ (by decide),qa,qk (by omega) (by omega),qa]
   rw[show((i:Int)+1)=((i+1:Nat):Int) by omega]
   exact g1
  ·rw[vO,qb3,if_pos (by omega),xi hb,qa,qa,qk (by omega) (by omega),qa,qk (by omega) (by omega),qa,hc]
   have e1:IntKind.wrap .u64 ((u:Int)+IntKind.wrap .u64 ((c:Nat):Int))=((u+c:Nat):Int):=by rw[qF,qF];omega
   have e3:IntKind.wrap .u64 ((s.length:Int)-(i:Int))=((r+1:Nat):Int):=by rw[qF];omega
   have e4:IntKind.wrap .u64 ((c:Nat):Int)=((c:Nat):Int):=by rw[qF];omega
   have e5:IntKind.wrap .u64 (((c:Nat):Int)*((r+1:Nat):Int))=((c*(r+1):Nat):Int):=by rw[←Int.natCast_mul,qF];omega
   have e2:IntKind.wrap .u64 ((v:Int)+((c*(r+1):Nat):Int))=((v+c*(r+1):Nat):Int):=by rw[qF];omega
   rw[e1,e3,e4,e5,e2,show((i:Int)+1)=((i+1:Nat):Int) by omega]
   exact g2
theorem qlR(s:List UInt8)(hs:s.length≤1048576):∃S:Nat,S<4294967296∧qlB s=some (S:Int)∧qlA s=some (S:Int):=by
 have hq:s.length*(s.length+1)≤1048576*1048577:=Nat.mul_le_mul hs (by omega)
 obtain⟨uf,vf,g1,g2⟩:=qkv s (by omega) s.length 0 (by omega) 1 0 1 s.length (by omega) (by omega) rfl (by omega) (by omega) (by omega) big big (by rw[qv];omega) (by rw[qv];omega)
 have hu:=Nat.mod_lt uf (show 65521>0 by decide)
 have hv:=Nat.mod_lt vf (show 65521>0 by decide)
 refine⟨vf%65521*65536+uf%65521,by omega,?_,?_⟩
 ·have:qlB s=qaV ((uf%65521:Nat):Int) ((vf%65521:Nat):Int):=by simpa [qlB]using g1
  rw[this]
  simp only[qaV]
  rw[show(16:Int)=((16:Nat):Int) by rfl,qiB _ _ (by decide) (by omega),qa,vo .u32 rfl _ _ (by rw[p32];omega) (by rw[p32];omega),Nat.or_comm,qg1 _ _ _ (by omega)]
  rw[show vf%65521*2 ^ 16=vf%65521*65536 by rfl,Nat.add_comm]
 ·have hw:IntKind.wrap .u64 (s.length:Int)=(s.length:Int):=by rw[qF];omega
  have:qlA s=qaU (uf:Int) (vf:Int):=by simpa [qlA,hw]using g2
  rw[this]
  simp only[qaU]
  rw[show(65521:Int)=((65521:Nat):Int) by rfl,zk _ _ (by decide),qa,zk _ _ (by decide),qa]
  congr 1
  rw[qF,qF,qaZ]
  omega
theorem qer(s:List UInt8)(hs:s.length≤1048576):∃l e,qjE s=some (l,e)∧qkg s=some (l,e)∧(s.length≤4096→e=0∧l.length=s.length+4):=by
 obtain⟨S,hS,g1,g2⟩:=qlR s hs
 simp only[qjE,qkg]
 by_cases h:4096<(s.length:Int)
 ·rw[if_pos h,if_pos h];exact⟨_,_,rfl,rfl,fun h'=>by omega⟩
 ·rw[if_neg h,if_neg h]
  simp only[g1,g2,qa]
  rw[show(24:Int)=((24:Nat):Int) by rfl,show(16:Int)=((16:Nat):Int) by rfl,show(8:Int)=((8:Nat):Int) by rfl,qa5 _ _ (by decide),qa5 _ _ (by decide),qa5 _ _ (by decide)]
  rw[show(16777216:Int)=((16777216:Nat):Int) by rfl,show(65536:Int)=((65536:Nat):Int) by rfl,show(256:Int)=((256:Nat):Int) by rfl,qbs _ _ (by decide) hS,qbs _ _ (by decide) hS,qbs _ _ (by decide) hS]
  simp only[qa]
  rw[zk _ _ (by decide),zk _ _ (by decide),zk _ _ (by decide)]
  simp only[qa,qef]
  have e1:((S/2 ^ 24:Nat):Int)%256=((S/16777216:Nat):Int)%256:=by omega
  have e2:((S/2 ^ 16:Nat):Int)%256=((S/65536%256:Nat):Int)%256:=by omega
  have e3:((S/2 ^ 8:Nat):Int)%256=((S/256%256:Nat):Int)%256:=by omega
  have e4:((S:Nat):Int)%256=((S%256:Nat):Int)%256:=by omega
  rw[e1,e2,e3,e4,qC (by simp[bytesOf];omega)]
  exact⟨_,_,rfl,rfl,fun _=>⟨rfl,by simp[bytesOf]⟩⟩
theorem qme(s:List UInt8)(hs:s.length≤1048576):∃l e,M85 s=some (l,e)∧M93 s=some (l,e)∧(e=0→l.length+4=s.length):=by
 simp only[M85,M93]
 rw[qk (by omega) (by omega),qa]
 by_cases h:(s.length:Int)<4
 ·rw[if_pos (by omega),if_pos h];exact⟨_,_,rfl,rfl,fun h'=>by cases h'⟩
 ·rw[if_neg (by omega),if_neg h]
  by_cases h2:4100<(s.length:Int)
  ·rw[if_pos (by omega),if_pos h2];exact⟨_,_,rfl,rfl,fun h'=>by cases h'⟩
  ·rw[if_neg (by omega),if_neg h2]
   rw[qK (by omega) (by omega) (by omega)]
   obtain⟨l,e,g1,g2,_⟩:=qer ((s.take ((s.length:Int)-4).toNat).drop (0:Int).toNat) (by simp;omega)
   simp only[qa]
   rw[qK (by omega) (by omega) (by omega)]
   simp only[g1,g2,qe,qa]
   by_cases h3:l≠s
   ·rw[if_pos h3];exact⟨_,_,rfl,rfl,fun h'=>by cases h'⟩
   ·rw[if_neg h3];exact⟨_,_,rfl,rfl,fun _=>by simp;omega⟩
def pF(s:List UInt8):List UInt8:=((qjE s).getD ([],0)).1
theorem qg0{s:List UInt8}(h:s.length≤4096):qjE s=some (pF s,0):=by
 obtain⟨l,e,h1,h2,h3⟩:=qer s (by omega)
 unfold pF;rw[h1];rw[(h3 h).1];rfl
theorem qjO{s:List UInt8}(h:s.length≤4096):qkg s=some (pF s,0):=by
 obtain⟨l,e,h1,h2,h3⟩:=qer s (by omega)
 unfold pF;rw[h1,h2];rw[(h3 h).1];rfl
theorem qeu{s:List UInt8}(h:s.length≤4096):(pF s).length=s.length+4:=by
 obtain⟨l,e,h1,h2,h3⟩:=qer s (by omega)
 unfold pF;rw[h1];exact(h3 h).2
end Go.Proofs.YtloiiohoelhldaaGreatDoor
end
section
namespace Go.Proofs.YtloiiohoelhldaaGreatDoor
open Go.S
abbrev SS:=List (List UInt8)
theorem wz:∀k,Lib.repeatL [(0:UInt8)] k=List.replicate k 0
 | 0=>rfl
 | k+1=>by simp[Lib.repeatL,wz k,List.replicate_succ]
theorem qcr(k:Nat)(h:k≤64):xj [0] (k:Int)=some (List.replicate k 0):=by
 unfold xj
 rw[if_pos ⟨by omega,by omega,by simp;omega⟩,Int.toNat_natCast,wz]
theorem w6(k:Nat)(h:k≤64):M18 (k:Int)=some (List.replicate k 0):=by rw[M18,qcr k h,qa]
theorem qeM(l:SS)(h:l.length≤256):M36 l=some l:=by
 rw[M36,qE (by simp;omega),qa];rfl
theorem qhC{l s:SS}(h:l.length=s.length):cpy l s=s:=by
 unfold cpy
 rw[Nat.min_eq_left (by omega),List.take_length,List.drop_eq_nil_of_le (by omega),List.append_nil]
def pad(s:List UInt8):List UInt8:=s++List.replicate (64-s.length) 0
theorem qdH{s:List UInt8}(h:s.length≤64):(pad s).length=64:=by
 unfold pad;rw[List.length_append,List.length_replicate];omega
theorem qkG{s:List UInt8}(h:s.length≤64):pad (pad s)=pad s:=by
 have:=qdH h
 unfold pad at *
 rw[this];simp
def LA(L:List Twrite):List Int:=L.map (·.at_)
def LX(L:List Twrite):SS:=L.map (·.text_)
def rd(d:TDisk):TDisk51:=⟨d.seen_,d.safe_,LA d.late_,LX d.late_,d.left_⟩
structure Dk(N:Nat)(d:TDisk)(q:Nat):Prop where
 s:d.safe_.length=N
 t:d.seen_.length=N
 n:N≤256
 s64:∀x∈d.safe_,x.length=64
 t64:∀x∈d.seen_,x.length=64
 late:∀w∈d.late_,0≤w.at_∧w.at_<N∧w.text_.length=64
 l0 : -1≤d.left_
 l1:d.left_≤9223372036854775807
 ll:d.late_.length≤q
theorem Dk.more{N:Nat}{d:TDisk}{q q':Nat}(h:Dk N d q)(hq:d.late_.length≤q'):Dk N d q':=⟨h.s,h.t,h.n,h.s64,h.t64,h.late,h.l0,h.l1,hq⟩
theorem i1{α:Type}(x:α):idx [x] 0=some x:=rfl
theorem u1{α:Type}(x y:α):upd [x] 0 y=some [y]:=rfl
section
variable{N:Nat}{d:TDisk}{q:Nat}
theorem yc{α:Type}{S:List α}{a:Int}{x:α}(h0:0≤a)(h1:a<S.length):upd S a x=some (S.set a.toNat x):=if_pos ⟨h0,h1⟩
theorem qhe{α:Type}{S:List α}{a:Int}(h0:0≤a)(h1:a<S.length):∃x,idx S a=some x:=by
 obtain⟨i,rfl⟩:=Int.eq_ofNat_of_zero_le h0
 exact⟨_,qp (by omega)⟩
theorem qbh{P:List UInt8→Prop}{T:SS}{i:Nat}{x:List UInt8}(hT:∀y∈T,P y)(hx:P x):∀y∈T.set i x,P y:=fun y hy=>by
 rcases List.mem_or_eq_of_mem_set hy with h|rfl
 ·exact hT y h
 ·exact hx
def wO(l:Int):Int:=max (l-1) (min l (-1))
theorem qdY(h:Dk N d q):qlC 0 [d]=some (if d.left_=0 then([d],13) else([⟨d.safe_,d.seen_,d.late_,wO d.left_⟩],0)):=by
 have hl0:=h.l0
 have hl1:=h.l1
 rw[qlC,i1,qa]
 by_cases c:d.left_=0
 ·rw[if_pos c,if_pos c]
 rw[if_neg c,if_neg c]
 by_cases c2:0<d.left_
 ·rw[if_pos c2,qk (by omega) (by omega),qa,u1,qa,show wO d.left_=d.left_-1 by unfold wO;omega]
 ·rw[if_neg c2,show wO d.left_=d.left_ by unfold wO;omega]
theorem qaY(h:Dk N d q)(hq:q<2000000000000)(a:Int){s s':List UInt8}(hs:s'=s∨(s.length≤64∧s'=pad s)) :
  ∃d' e,M86 0 a s [d]=some ([d'],e)∧M94 0 a s' [rd d]=some ([rd d'],e)∧Dk N d' (q+1)∧(e≠0→d'=d)∧(e=0→d'.late_.length=d.late_.length+1):=by
 have hl:=h.ll
 have hm:=h.more (q':=q+1) (by omega)
 have h64:(64:Int)<s.length↔(64:Int)<s'.length:=by
  rcases hs with rfl|⟨h1,rfl⟩
  ·rfl
  ·rw[qdH h1];omega
 have hp:s.length≤64→pad s'=pad s:=fun h1=>by
  rcases hs with rfl|⟨_,rfl⟩
  ·rfl
  ·exact qkG h1
 have ht:=h.t
 rw[M86,M94,i1,i1,qa,qa,h.s,show(rd d).Seen.length=N from ht]
 by_cases c1:a<0
 ·rw[if_pos c1,if_pos c1];exact⟨_,_,rfl,rfl,hm,fun _=>rfl,fun e=>by cases e⟩
 rw[if_neg c1,if_neg c1]
 by_cases c2:(N:Int)≤a
 ·rw[if_pos c2,if_pos c2];exact⟨_,_,rfl,rfl,hm,fun _=>rfl,fun e=>by cases e⟩
 rw[if_neg c2,if_neg c2]
 by_cases c3:(64:Int)<s.length
 ·rw[if_pos c3,if_pos (h64.1 c3)];exact⟨_,_,rfl,rfl,hm,fun _=>rfl,fun e=>by cases e⟩
 have c3' : ¬(64:Int)<s'.length:=fun c=>c3 (h64.2 c)
 rw[if_neg c3,if_neg c3',qdY h]
 by_cases c4:d.left_=0
 ·rw[if_pos c4,qe,if_pos (by decide),if_pos (show(rd d).left_=0 from c4)];exact⟨_,_,rfl,rfl,hm,fun _=>rfl,fun e=>by cases e⟩
 rw[if_neg c4,if_neg (show ¬(rd d).left_=0 from c4),qe,if_neg (by decide)]
 have hl0:=h.l0
 have hl1:=h.l1
 obtain⟨i,rfl⟩:=Int.eq_ofNat_of_zero_le (show 0≤a by omega)
 have hi:i<d.seen_.length:=by rw[ht];omega
 have hpl:=qdH (s:=s) (by omega)
 refine⟨⟨d.safe_,d.seen_.set i (pad s),d.late_++[⟨(i:Int),pad s⟩],wO d.left_⟩,0,?_,?_,?_,fun e=>absurd rfl e,fun _=>by simp⟩
 ·rw[qk (by omega) (by omega),qa,show(64:Int)-s.length=((64-s.length:Nat):Int) by omega,qcr _ (by omega),qa,qC (by simp;omega),qa,i1,qa,qp hi,qa,
   yc (by omega) (show(i:Int)<d.seen_.length by omega),qa,qE (by simp;omega),qa,u1,qa]
  rfl
 ·rw[show(rd d).left_=d.left_ from rfl,show(rd d).Seen=d.seen_ from rfl,show(rd d).late_=LA d.late_ from rfl,show(rd d).texts_=LX d.late_ from rfl,show(rd d).Safe=d.safe_ from rfl,qk (by omega) (by omega),qa,qk (by omega) (by omega),qa,show(64:Int)-s'.length=((64-s'.length:Nat):Int) by omega,w6 _ (by omega),qa,qC (by simp;omega),qa,qp hi,qa,
   yc (by omega) (by omega),qa,show s'++List.replicate (64-s'.length) 0=pad s from hp (by omega),Int.toNat_natCast,qp (by rw[List.length_set];exact hi),qa,qE (by simp[LA];omega),qa,qE (by simp[LX];omega),qa,u1,qa,qjg]
  simp[rd,LA,LX,wO]
 ·refine⟨h.s,by rw[List.length_set];exact ht,h.n,h.s64,qbh h.t64 hpl,fun w hw=>?_,by simp only[wO];omega,by simp only[wO];omega,by simp;omega⟩
  rcases List.mem_append.1 hw with hw|hw
  ·exact h.late w hw
  ·rw[List.mem_singleton]at hw;subst hw
   exact⟨by simp,by simp;omega,hpl⟩
theorem qbm(h:Dk N d q):∃d' e,M88 0 [d]=some ([d'],e)∧M95 0 [rd d]=some ([rd d'],e)∧Dk N d' q∧(e≠0→d'=d)∧(e=0→d'.late_=[]):=by
 rw[M88,M95,qdY h,i1,qa]
 by_cases c4:d.left_=0
 ·rw[if_pos c4,qe,if_pos (by decide),if_pos (show(rd d).left_=0 from c4)];exact⟨_,_,rfl,rfl,h,fun _=>rfl,fun e=>by cases e⟩
 have hl0:=h.l0
 have hl1:=h.l1
 have hs:=h.s
 have ht:=h.t
 have hn:=h.n
 rw[if_neg c4,if_neg (show ¬(rd d).left_=0 from c4),qe,if_neg (by decide),i1,qa,u1,qa,qhC (by rw[hs,ht]),show(rd d).left_=d.left_ from rfl,show(rd d).Seen=d.seen_ from rfl,qk (by omega) (by omega),qa,qeM _ (by rw[ht];exact hn),qa,u1,qa]
 exact⟨⟨d.seen_,d.seen_,[],wO d.left_⟩,0,rfl,rfl,⟨ht,ht,hn,h.t64,h.t64,by simp,by simp only[wO];omega,by simp only[wO];omega,by simp⟩,fun e=>absurd rfl e,fun _=>rfl⟩
theorem qbc(h:Dk N d q)(hl:d.left_≠0)(i:Nat)(hi:i<d.seen_.length):M16 0 (i:Int) [d]=some (d.seen_[i],0):=by
 have ht:=h.t
 have hs:=h.s
 rw[M16,if_neg (by omega),i1,qa,if_neg (by omega),if_neg hl,qp hi,qa]
theorem qhp(h:Dk N d q)(a:Int)(ha:a≤9223372036854775807):∃d',M10 0 a [d]=some [d']∧M11 0 a [rd d]=some [rd d']∧Dk N d' q∧d'=⟨d.safe_,d.seen_,d.late_,max a (-1)⟩:=by
 refine⟨⟨d.safe_,d.seen_,d.late_,max a (-1)⟩,?_,?_,⟨h.s,h.t,h.n,h.s64,h.t64,h.late,?_,?_,h.ll⟩,rfl⟩
 ·rw[M10,i1,qa,u1,qa]
 ·rw[M11,i1,qa]
  by_cases c:a<0
  ·rw[if_pos c,u1,qa,show max a (-1)=-1 by omega];rfl
  ·rw[if_neg c,u1,qa,show max a (-1)=a by omega];rfl
 ·show -1≤max a (-1);omega
 ·show max a (-1)≤_;omega
def wN(keep:List Bool):Nat→List Twrite→SS→SS
 | _,[],S=>S
 | i,w::L,S=>wN keep (i+1) L (if keep[i]?=some true then S.set w.at_.toNat w.text_ else S)
theorem qcU(keep:List Bool):∀(L:List Twrite) (i:Nat) (S:SS),(wN keep i L S).length=S.length
 | [],_,_=>rfl
 | w::L,i,S=>by rw[wN,qcU keep L];split<;>simp
theorem qeJ(keep:List Bool):∀(L:List Twrite) (i:Nat) (S:SS),(∀w∈L,w.text_.length=64)→(∀x∈S,x.length=64)→∀x∈wN keep i L S,x.length=64
 | [],_,_,_,h=>h
 | w::L,i,S,hw,h=>by
  rw[wN]
  refine qeJ keep L (i+1) _ (fun v hv=>hw v (List.mem_cons_of_mem _ hv)) ?_
  split
  ·exact qbh (P:=fun x=>x.length=64) h (hw w (List.mem_cons_self))
  ·exact h
theorem qla(d:TDisk)(keep:List Bool)(A:List TDisk)(N:Nat)(hl:d.late_.length<9223372036854775807)(hL:∀w∈d.late_,0≤w.at_∧w.at_<N):∀(r i:Nat),i+r=d.late_.length→∀n,r<n→∀S:SS,S.length=N →
  qb8 d keep A 0 n (i:Int) S=qb (upd A 0 ⟨wN keep i (d.late_.drop i) S,d.seen_,d.late_,d.left_⟩) fun l=>qic 0 l:=by
 intro r
 induction r with
 | zero =>
  intro i hi n hn S hS
  obtain⟨n,rfl⟩:=dec n hn
  rw[qb8,qfA,if_neg (by omega),List.drop_eq_nil_of_le (by omega)]
  rfl
 | succ r ih =>
  intro i hi n hn S hS
  obtain⟨n,rfl⟩:=dec n (by omega)
  have h1:i<d.late_.length:=by omega
  have hw:=hL d.late_[i] (List.getElem_mem h1)
  rw[qb8,qfA,if_pos (by omega),qp h1,qa,qD i (by omega),zt h1,wN]
  by_cases c1:i<keep.length
  ·rw[if_pos (by omega),qp c1,qa,List.getElem?_eq_getElem c1]
   obtain⟨y,hy⟩:=qhe (S:=S) hw.1 (by rw[hS];exact hw.2)
   by_cases c2:keep[i]=true
   ·rw[if_pos c2,hy,qa,yc hw.1 (by rw[hS];exact hw.2),qa,qa,ih (i+1) (by omega) n (by omega) _ (by simp[hS])]
    simp[c2]
   ·rw[if_neg c2,qa,ih (i+1) (by omega) n (by omega) _ hS]
    simp[c2]
  ·rw[if_neg (by omega),qa,ih (i+1) (by omega) n (by omega) _ hS]
   have:keep[i]?=none:=List.getElem?_eq_none (by omega)
   simp[this]
theorem qk9(d:TDisk)(keep:List Bool)(A:List TDisk51)(N:Nat)(hl:d.late_.length<9223372036854775807)(hL:∀w∈d.late_,0≤w.at_∧w.at_<N):∀(r i:Nat),i+r=d.late_.length→∀n,r<n→∀S:SS,S.length=N →
  qb5 (rd d) keep A 0 n (i:Int) S=qb (upd A 0 ⟨d.seen_,wN keep i (d.late_.drop i) S,LA d.late_,LX d.late_,d.left_⟩) fun l=>qib 0 l:=by
 intro r
 have hla:(rd d).late_.length=d.late_.length:=by simp[rd,LA]
 induction r with
 | zero =>
  intro i hi n hn S hS
  obtain⟨n,rfl⟩:=dec n hn
  rw[qb5,qfy,if_neg (by omega),List.drop_eq_nil_of_le (by omega)]
  rfl
 | succ r ih =>
  intro i hi n hn S hS
  obtain⟨n,rfl⟩:=dec n (by omega)
  have h1:i<d.late_.length:=by omega
  have hw:=hL d.late_[i] (List.getElem_mem h1)
  have e1:idx (rd d).late_ (i:Int)=some d.late_[i].at_:=by rw[rd,LA,jw];simp[h1]
  have e2:idx (rd d).texts_ (i:Int)=some d.late_[i].text_:=by rw[rd,LX,jw];simp[h1]
  rw[qb5,qfy,if_pos (by omega),e1,qa,qD i (by omega),zt h1,wN]
  by_cases c1:i<keep.length
  ·rw[if_pos (by omega),qp c1,qa,List.getElem?_eq_getElem c1]
   obtain⟨y,hy⟩:=qhe (S:=S) hw.1 (by rw[hS];exact hw.2)
   by_cases c2:keep[i]=true
   ·rw[if_pos c2,e2,qa,hy,qa,yc hw.1 (by rw[hS];exact hw.2),qa,qa,ih (i+1) (by omega) n (by omega) _ (by simp[hS])]
    simp[c2]
   ·rw[if_neg c2,qa,ih (i+1) (by omega) n (by omega) _ hS]
    simp[c2]
  ·rw[if_neg (by omega),qa,ih (i+1) (by omega) n (by omega) _ hS]
   have:keep[i]?=none:=List.getElem?_eq_none (by omega)
   simp[this]
theorem qi2(h:Dk N d q)(hq:q<2000000000000)(keep:List Bool):∃d',M12 0 keep [d]=some [d']∧M13 0 keep [rd d]=some [rd d']∧Dk N d' 0:=by
 have hll:d.late_.length<2000000000000:=Nat.lt_of_le_of_lt h.ll hq
 have hL:∀w∈d.late_,0≤w.at_∧w.at_<N:=fun w hw=>⟨(h.late w hw).1,(h.late w hw).2.1⟩
 have h1:=qla d keep [d] N (by omega) hL d.late_.length 0 (by omega) big (z7 (by omega)) d.safe_ h.s
 have h2:=qk9 d keep [rd d] N (by omega) hL d.late_.length 0 (by omega) big (z7 (by omega)) d.safe_ h.s
 rw[show((0:Nat):Int)=0 from rfl,List.drop_zero,u1,qa]at h1 h2
 have hc:(wN keep 0 d.late_ d.safe_).length=N:=by rw[qcU,h.s]
 have h64:=qeJ keep d.late_ 0 d.safe_ (fun w hw=>(h.late w hw).2.2) h.s64
 refine⟨⟨wN keep 0 d.late_ d.safe_,wN keep 0 d.late_ d.safe_,[],-1⟩,?_,?_,⟨hc,hc,h.n,h64,h64,by simp,Int.le_refl _,show(-1:Int)≤9223372036854775807 by decide,by simp⟩⟩
 ·rw[M12,i1,qa,h1,qic,i1,qa,u1,qa,qhC (by rw[h.t,hc])]
 ·rw[M13,i1,qa,show(rd d).Safe=d.safe_ from rfl,h2,qib,i1,qa,qeM _ (by rw[hc];exact h.n),qa,u1,qa];rfl
end
end Go.Proofs.YtloiiohoelhldaaGreatDoor
end
section
namespace Go.Proofs.YtloiiohoelhldaaGreatDoor
open Go.S
theorem qaB{b:UInt8}(h:b.toNat=0):b=0:=by
 apply UInt8.toNat_inj.1;simpa using h
theorem qnb:∀(k:Nat) (s:List UInt8),s.length=k→k<9223372036854775807→∀n,k<n→∃t j,vU 0 n s=some t∧s=t++List.replicate j 0∧(∀b,t.getLast?=some b→b≠0):=by
 intro k
 induction k with
 | zero =>
  intro s hs _ n hn
  obtain⟨n,rfl⟩:=dec n hn
  obtain rfl:s=[]:=List.length_eq_zero_iff.1 hs
  exact⟨[],0,by rw[vU,qb9,if_neg (by simp)];rfl,rfl,by simp⟩
 | succ k ih =>
  intro s hs hk n hn
  obtain⟨n,rfl⟩:=dec n (by omega)
  have hne:s≠[]:=by rintro rfl;simp at hs
  obtain⟨t,b,rfl⟩:∃t b,s=t++[b]:=⟨s.dropLast,s.getLast hne,(List.dropLast_concat_getLast hne).symm⟩
  have ht:t.length=k:=by simpa using hs
  have hb:(t++[b])[k]?=some b:=by rw[List.getElem?_append_right (by omega),ht];simp
  rw[vU,qb9,if_pos (by rw[hs];omega),hs,show((k+1:Nat):Int)-1=(k:Int) by omega,qk (by omega) (by omega),qa,xi hb,qa]
  by_cases c:b.toNat=0
  ·obtain rfl:=qaB c
   rw[if_pos (by simp),qa,qK (by omega) (by omega) (by rw[hs];omega),qa]
   obtain⟨u,j,h1,h2,h3⟩:=ih t ht (by omega) n (by omega)
   have e:((t++[0]).take ((k:Int)).toNat).drop (0:Int).toNat=t:=by simp[←ht]
   rw[e,h1]
   exact⟨u,j+1,rfl,by rw[List.replicate_succ',←List.append_assoc,←h2],h3⟩
  ·rw[if_neg (by omega),qdr]
   refine⟨_,0,rfl,by simp,fun b' hb'=>?_⟩
   rw[List.getLast?_concat,Option.some.injEq]at hb'
   subst hb'
   rintro rfl
   exact c rfl
theorem qnc:∀(k:Nat) (s:List UInt8),s.length=k→k<9223372036854775807→∀n,k<n→∃t j,vV 0 n s=some t∧s=List.replicate j 0++t∧(∀b,t.head?=some b→b≠0):=by
 intro k
 induction k with
 | zero =>
  intro s hs _ n hn
  obtain⟨n,rfl⟩:=dec n hn
  obtain rfl:s=[]:=List.length_eq_zero_iff.1 hs
  exact⟨[],0,by rw[vV,qca,if_neg (by simp)];rfl,rfl,by simp⟩
 | succ k ih =>
  intro s hs hk n hn
  obtain⟨n,rfl⟩:=dec n (by omega)
  obtain⟨b,t,rfl⟩:∃b t,s=b::t:=by
   cases s with
   | nil=>simp at hs
   | cons b t=>exact⟨b,t,rfl⟩
  have ht:t.length=k:=by simpa using hs
  have hb:(b::t)[0]?=some b:=rfl
  have hi:=xi hb
  rw[show((0:Nat):Int)=0 from rfl]at hi
  rw[vV,qca,if_pos (by rw[hs];omega),hi,qa]
  by_cases c:b.toNat=0
  ·obtain rfl:=qaB c
   rw[if_pos (by simp),qK (by omega) (by rw[hs];omega) (by omega),qa]
   obtain⟨u,j,h1,h2,h3⟩:=ih t ht (by omega) n (by omega)
   have e:(((0:UInt8)::t).take (((0:UInt8)::t).length:Int).toNat).drop (1:Int).toNat=t:=by simp
   rw[e,h1]
   exact⟨u,j+1,rfl,by rw[List.replicate_succ,List.cons_append,←h2],h3⟩
  ·rw[if_neg (by omega),qds]
   refine⟨_,0,rfl,by simp,fun b' hb'=>?_⟩
   rw[List.head?_cons,Option.some.injEq]at hb'
   subst hb'
   rintro rfl
   exact c rfl
theorem qkt(s:List UInt8)(hs:s.length=64):∃u,M80 s [0]=some u∧(u=[]↔s=List.replicate 64 0):=by
 have hne:s≠[]:=by rintro rfl;simp at hs
 obtain⟨t,j,h1,h2,h3⟩:=qnb 64 s hs (by omega) big (z7 (by omega))
 have htl:t.length≤64:=by have:=congrArg List.length h2;simp at this;omega
 obtain⟨u,i,g1,g2,g3⟩:=qnc t.length t rfl (by omega) big (z7 (by omega))
 have h0:qaj [(0:UInt8)] 0=some 0:=by decide
 refine⟨u,?_,?_⟩
 ·rw[M80,if_neg hne,if_neg (by simp),if_pos (by simp),h0,qa,if_pos (by decide),qa,qm4,h1,qa,qa,qm5,g1,qa]
 ·constructor
  ·rintro rfl
   rw[h2,g2,List.append_nil,List.replicate_append_replicate]at hs ⊢
   rw[List.length_replicate]at hs
   rw[hs]
  ·intro hz
   have ht:t=[]:=by
    rcases List.eq_nil_or_concat t with h|⟨t',b,rfl⟩
    ·exact h
    ·exfalso
     refine h3 b (by simp) ?_
     have:b∈s:=by rw[h2];simp
     rw[hz]at this
     exact(List.mem_replicate.1 this).2
   subst ht
   have:=congrArg List.length g2
   simp at this
   exact List.eq_nil_of_length_eq_zero (by omega)
def hd(m:UInt8)(e q:Int):List UInt8:=[m]++pI e++pI q
theorem qhi{m:UInt8}{e q:Int}(he:I64 e)(hq:I64 q):(hd m e q).length≤21:=by
 have h1:=jg he
 have h2:=jg hq
 simp[hd];omega
theorem qdP{m:UInt8}{e q:Int}(he:I64 e)(hq:I64 q):M84 [m] e q=some (hd m e q):=by
 have h1:=jg he
 have h2:=jg hq
 rw[M84,yj he,qa,qC (by simp;omega),qa,yj hq,qa,qC (by simp;omega),qa];rfl
theorem qjV{m:Nat}(hm:m<256){e q:Int}(he:I64 e)(hq:I64 q):M92 (m:Int) e q=some (hd (UInt8.ofNat m) e q):=by
 have h1:=jg he
 have h2:=jg hq
 rw[M92,qcw he,qa,qcw hq,qa,xg,qC (by simp;omega),qa,qC (by simp;omega),qa];rfl
theorem qdQ{e q:Int}(he:I64 e)(hq:I64 q):M92 2 e q=some (hd 2 e q):=qjV (m:=2) (by omega) he hq
theorem qkX{e q:Int}(he:I64 e)(hq:I64 q):M92 1 e q=some (hd 1 e q):=qjV (m:=1) (by omega) he hq
def aT(e:Int):List UInt8:=[3]++pF (pI e)
theorem qj9{e:Int}(he:I64 e):(aT e).length≤15:=by
 have h1:=jg he
 have h2:=qeu (s:=pI e) (by omega)
 simp[aT];omega
theorem qhH{e:Int}(he:I64 e):M81 e=some (aT e):=by
 have h1:=jg he
 have h2:=qeu (s:=pI e) (by omega)
 rw[M81,yj he,qa,qg0 (by omega),qe,qC (by simp;omega),qa];rfl
theorem qj8{e:Int}(he:I64 e):M90 e=some (pad (aT e)):=by
 have h1:=jg he
 have h2:=qeu (s:=pI e) (by omega)
 rw[M90,qcw he,qa,qjO (by omega),qe,qC (by simp;omega),qa,qk (by omega) (by omega),qa,show(63:Int)-(pF (pI e)).length=((63-(pF (pI e)).length:Nat):Int) by omega,
  w6 _ (by omega),qa,qC (by simp;omega),qa,pad,aT,show 64-([(3:UInt8)]++pF (pI e)).length=63-(pF (pI e)).length by simp]
theorem qiX(s:List UInt8)(hs:s.length=64):(∃n:Int,M44 s=some (n,0)∧M50 s=some n∧0≤n∧n≤1000000)∨(M44 s=some (0,4)∧M50 s=some (-1)):=by
 obtain⟨u,h1,h2⟩:=qkt s hs
 have hb:M18 64=some (List.replicate 64 0):=w6 64 (by omega)
 simp only[M44,M50,h1,hb,qa]
 by_cases c:s=List.replicate 64 0
 ·rw[if_pos (h2.2 c),if_pos c]
  exact .inl ⟨0,rfl,rfl,by omega,by omega⟩
 rw[if_neg (fun h=>c (h2.1 h)),if_neg c]
 have hc:cut s 1 (s.length:Int)=some (s.drop 1):=by
  rw[qK (by omega) (by omega) (by omega)];simp
 rw[hc,qa,qa]
 obtain⟨a,k,e,g⟩:=gI (s.drop 1) (by simp;omega)
 rw[g.p,g.r,qg,qg,qhH g.a64,qa]
 have hl:=qj9 g.a64
 have k2:∀(b:Bool),b=true→qdb a (aT a) s b=some (0,4):=fun b hb=>by rw[qdb,if_pos hb]
 have n2:qc9 a s false=some (-1):=by rw[qc9,if_neg ff]
 by_cases c1:e=0
 ·rw[if_neg (by simpa using c1),if_pos c1]
  by_cases c2:a<0
  ·rw[if_pos c2,if_neg (by omega),k2 _ rfl,n2];exact .inr ⟨rfl,rfl⟩
  rw[if_neg c2,if_pos (by omega),qdb,if_neg ff,qc9,if_pos rfl]
  by_cases c3:1000000<a
  ·rw[if_pos c3,if_neg (by omega)];exact .inr ⟨rfl,rfl⟩
  rw[if_neg c3,if_pos (by omega),qk (by omega) (by omega),qa,show(64:Int)-(aT a).length=((64-(aT a).length:Nat):Int) by omega,qcr _ (by omega),qa,qC (by simp;omega),qa,qj8 g.a64,qa,show aT a++List.replicate (64-(aT a).length) 0=pad (aT a) from rfl]
  by_cases c4:pad (aT a)=s
  ·rw[if_neg (fun h=>h c4),if_pos c4];exact .inl ⟨a,rfl,rfl,by omega,by omega⟩
  ·rw[if_pos c4,if_neg c4];exact .inr ⟨rfl,rfl⟩
 ·rw[if_pos c1,if_neg c1,k2 _ rfl,n2];exact .inr ⟨rfl,rfl⟩
end Go.Proofs.YtloiiohoelhldaaGreatDoor
end
section
namespace Go.Proofs.YtloiiohoelhldaaGreatDoor
open Go.S
theorem qiC{e q:Int}(he:I64 e)(hq:I64 q):∀(k:Nat) (s:List UInt8),s.length=k→k≤1000→∀(n n':Nat),k<n→k<n'→∀(l:SS),l.length+k≤1000→(∀x∈l,x.length≤64)→∃L:SS,km e q n s l (if l.length=0 then[1] else[2])=some L∧kl e q n' s l=some L∧(∀x∈L,x.length≤64)∧(s≠[]→0<L.length)∧L.length≤l.length+k∧l.length≤L.length:=by
 intro k
 induction k using Nat.strongRecOn with
 | _ k ih =>
 intro s hs hk n n' hn hn' l hl hl64
 obtain⟨n,rfl⟩:=dec n (by omega)
 obtain⟨n',rfl⟩:=dec n' (by omega)
 rw[km,qed,kl,qeb]
 by_cases c:s=[]
 ·rw[if_neg (by simpa using c),if_neg (by simpa using c)]
  exact⟨l,rfl,rfl,hl64,fun h=>absurd c h,by omega,by omega⟩
 rw[if_pos c,if_pos c,qdQ he hq,qa]
 have hpos:0<s.length:=List.length_pos_iff.2 c
 have key:∀h:List UInt8,h.length≤21→∃x:List UInt8,∃t:List UInt8,x.length≤64∧t.length<k ∧
   (qb (i64 (64-(h.length:Int))) fun x9=>qb (cut s 0 (min x9 (s.length:Int))) fun s10=>qb (kp h s10) fun s11=>qb (app l ([s11])) fun l14=>qb (cut s (min x9 (s.length:Int)) s.length) fun s15=>km e q n s15 l14 ([2]))=km e q n t (l++[x]) [2] ∧
   qai s l (kl e q n') h=kl e q n' t (l++[x]):=by
  intro h hh
  obtain⟨m,hm,hm1,hm2⟩:∃m:Nat,min (64-(h.length:Int)) (s.length:Int)=(m:Int)∧0<m∧m≤s.length∧m+h.length≤64:=⟨min (64-h.length) s.length,by omega,by omega,by omega,by omega⟩
  have hx:h.length+(s.take m).length≤64:=by rw[List.length_take];omega
  refine⟨h++s.take m,s.drop m,by rw[List.length_append];exact hx,by rw[List.length_drop];omega,?_,?_⟩
  ·rw[qk (by omega) (by omega),qa,hm,qK (by omega) (by omega) (by omega),qa]
   have e1:(s.take ((m:Int)).toNat).drop (0:Int).toNat=s.take m:=by simp
   rw[e1,qC (by omega),qa,qE (by simp;omega),qa,qK (by omega) (by omega) (by omega),qa]
   have e2:(s.take ((s.length:Int)).toNat).drop ((m:Int)).toNat=s.drop m:=by simp
   rw[e2]
  ·have e1:(s.take ((m:Int)).toNat).drop (0:Int).toNat=s.take m:=by simp
   have e2:(s.take ((s.length:Int)).toNat).drop ((m:Int)).toNat=s.drop m:=by simp
   rw[qai,qk (by omega) (by omega),qa]
   by_cases c2:(s.length:Int)<64-(h.length:Int)
   ·rw[if_pos c2,show(s.length:Int)=(m:Int) by omega,qK (by omega) (by omega) (by omega),qa,qK (by omega) (by omega) (by omega),qa,show(m:Int)=(s.length:Int) by omega,show s.take m=s from List.take_of_length_le (by omega),show s.drop m=[] from List.drop_eq_nil_of_le (by omega)]
    have e3:(s.take ((s.length:Int)).toNat).drop (0:Int).toNat=s:=by simp
    have e4:(s.take ((s.length:Int)).toNat).drop ((s.length:Int)).toNat=[]:=by simp
    rw[e3,e4,qC (by omega),qa,qE (by simp;omega),qa]
   ·rw[if_neg c2,show(64:Int)-(h.length:Int)=(m:Int) by omega,qK (by omega) (by omega) (by omega),qa,qK (by omega) (by omega) (by omega),qa,e1,e2,qC (by omega),qa,qE (by simp;omega),qa]
 have go:∀h:List UInt8,h.length≤21→∃L:SS,(qb (i64 (64-(h.length:Int))) fun x9=>qb (cut s 0 (min x9 (s.length:Int))) fun s10=>qb (kp h s10) fun s11=>qb (app l ([s11])) fun l14=>qb (cut s (min x9 (s.length:Int)) s.length) fun s15=>km e q n s15 l14 ([2]))=some L ∧
   qai s l (kl e q n') h=some L∧(∀x∈L,x.length≤64)∧(s≠[]→0<L.length)∧L.length≤l.length+k∧l.length≤L.length:=by
  intro h hh
  obtain⟨x,t,hx,ht,e1,e2⟩:=key h hh
  have hxl:∀y∈l++[x],y.length≤64:=fun y hy=>by
   rcases List.mem_append.1 hy with hy|hy
   ·exact hl64 y hy
   ·rw[List.mem_singleton]at hy;subst hy;exact hx
  obtain⟨L,f1,f2,f3,f4,f5,f6⟩:=ih t.length (by omega) t rfl (by omega) n n' (by omega) (by omega) (l++[x]) (by simp;omega) hxl
  rw[if_neg (by simp)]at f1
  rw[e1,e2]
  simp at f5 f6
  exact⟨L,f1,f2,f3,fun _=>by omega,by omega,by omega⟩
 by_cases c0:l.length=0
 ·rw[if_pos c0,if_pos (by omega),qkX he hq,qa,qdP he hq,qa]
  exact go _ (qhi he hq)
 ·rw[if_neg c0,if_neg (by omega),qdP he hq,qa]
  exact go _ (qhi he hq)
theorem qjM{e q:Int}(he:I64 e)(hq:I64 q){s:List UInt8}(hs:s.length≤300):∃L:SS,qlj e q s=some L∧qlh e q s=some L∧(∀x∈L,x.length≤64)∧0<L.length∧L.length≤1000:=by
 have h1:=qgZ s
 have h2:=qeu (s:=pT s) (by omega)
 have hne:pF (pT s)≠[]:=by intro h;rw[h]at h2;simp at h2
 obtain⟨L,f1,f2,f3,f4,f5,_⟩:=qiC he hq (pF (pT s)).length (pF (pT s)) rfl (by omega) big big (z7 (by omega)) (z7 (by omega)) [] (by simp;omega) (by simp)
 refine⟨L,?_,?_,f3,f4 hne,by simp at f5;omega⟩
 ·rw[qlj,qgY (by omega),qe,qg0 (by omega),qe];exact f1
 ·rw[qlh,qjN (by omega),qa,qjO (by omega),qe];exact f2
end Go.Proofs.YtloiiohoelhldaaGreatDoor
end
section
namespace Go.Proofs.YtloiiohoelhldaaGreatDoor
open Go.S
def Same(a s:Int)(p:Option (Trecord×Bool))(q:Option (Int×List UInt8×Int)):Prop:=
 (p=some ((⟨0,[],0⟩:Trecord),false)∧q=some (0,[],0))∨∃ep tx sz,p=some ((⟨ep,tx,sz⟩:Trecord),true)∧q=some (ep,tx,sz)∧1≤sz∧a+sz≤s∧tx.length≤1000
theorem Same.none{a s:Int}:Same a s (some ((⟨0,[],0⟩:Trecord),false)) (some (0,[],0)):=.inl ⟨rfl,rfl⟩
section
variable{N:Nat}{d:TDisk}{q:Nat}{G:List TLog}{a0:Int}{g:TLog}
theorem qiG(h:Dk N d q)(hl:d.left_≠0)(hg:idx G a0=some g)(hgd:g.d_=0)(fr at_ m b size:Nat)(hf:g.from_=fr)(hz:g.size_=size)(hb:fr+at_=b)(hsz:at_+m=size)(hN:b+m≤N){V:SS}(hV:V=(d.seen_.drop b).take m){ep sq:Int}(he:I64 ep)(hq:I64 sq)(n k:Int)
  (hn0:0≤n) (hn1:n≤300) (hk0:0≤k) (hk1:k≤64):∀(r i:Nat),i+r=m→1≤i→∀(f f':Nat),r<f→r<f'→∀all:List UInt8,all.length≤64*i →
  Same at_ size (qbO (k+n+4) at_ G a0 [d] (hd 2 ep sq) k ep f all i) (qbN k n ep sq V f' i all):=by
 have ht:=h.t
 have hNn:=h.n
 have hVl:V.length=m:=by rw[hV,List.length_take,List.length_drop];omega
 have hwn:IntKind.wrap .i64 n=n:=xk (by omega) (by omega)
 have hhl:=qhi (m:=2) he hq
 have hj1:i64 (k+n)=some (k+n):=qk (by omega) (by omega)
 have hj2:i64 (k+n+4)=some (k+n+4):=qk (by omega) (by omega)
 have done:∀(i:Nat) (all:List UInt8),i≤m→1≤i→k+n+4≤all.length→Same at_ size (qhZ (k+n+4) k ep all i) (qhY k n ep i all):=by
  intro i all hi hi1 hlen
  simp only[qhZ,qhY,hwn]
  rw[qk (by omega) (by omega),qa,qk (by omega) (by omega),qa,qK (by omega) (by omega) (by omega),qa,qa]
  have hlt:((all.take (k+n+4).toNat).drop (0:Int).toNat).length=(k+n+4).toNat:=by simp;omega
  obtain⟨u,e,g1,g2,g3⟩:=qme ((all.take (k+n+4).toNat).drop (0:Int).toNat) (by omega)
  rw[g1,g2,qe,qe]
  by_cases c:e=0
  ·have g4:=g3 c
   rw[if_neg (by simpa using c),if_neg (by simpa using c),qK (by omega) (by omega) (by omega),qa,qa]
   exact .inr ⟨_,_,_,rfl,rfl,by omega,by omega,by simp;omega⟩
  ·rw[if_pos c,if_pos c];exact Same.none
 intro r
 induction r with
 | zero =>
  intro i hi hi1 f f' hf1 hf' all hall
  obtain⟨f,rfl⟩:=dec f hf1
  obtain⟨f',rfl⟩:=dec f' hf'
  rw[qbO,qfk,qbN,qfj,hwn,hj1,qa,hj2,qa]
  by_cases c:(all.length:Int)<k+n+4
  ·rw[if_pos c,if_pos c,qk (by omega) (by omega),qa,hg,qa,if_pos (by omega),qdQ he hq,qa,if_pos (by omega)]
   exact Same.none
  ·rw[if_neg c,if_neg c]
   exact done i all (by omega) hi1 (by omega)
 | succ r ih =>
  intro i hi hi1 f f' hf1 hf' all hall
  obtain⟨f,rfl⟩:=dec f (by omega)
  obtain⟨f',rfl⟩:=dec f' (by omega)
  rw[qbO,qfk,qbN,qfj,hwn,hj1,qa,hj2,qa]
  by_cases c:(all.length:Int)<k+n+4
  ·have hiv:i<V.length:=by omega
   have hit:b+i<d.seen_.length:=by omega
   have hvt:V[i]=d.seen_[b+i]:=by subst hV;simp
   have h64:d.seen_[b+i].length=64:=h.t64 _ (List.getElem_mem hit)
   have hct:cut d.seen_[b+i] 0 ((hd 2 ep sq).length:Int)=some (d.seen_[b+i].take (hd 2 ep sq).length):=by rw[qK (by omega) (by omega) (by omega)];simp
   have hcd:cut d.seen_[b+i] ((hd 2 ep sq).length:Int) (d.seen_[b+i].length:Int)=some (d.seen_[b+i].drop (hd 2 ep sq).length):=by rw[qK (by omega) (by omega) (by omega)];simp
   rw[if_pos c,if_pos c,qk (by omega) (by omega),qa,hg,qa,if_neg (by omega),qk (by omega) (by omega),qa,qk (by omega) (by omega),qa,
    show g.from_+(at_:Int)+(i:Int)=((b+i:Nat):Int) by omega,hgd,qbc h hl _ hit,qe,if_neg (by simp),M39,M77,if_pos (by omega),hct,qa,qa,qa,
    qdQ he hq,qa,if_neg (show ¬((i:Int)=(V.length:Int)) by omega),qp hiv,qa,hvt,hct,qa,qa,hcd,qa,qa]
   by_cases c2:d.seen_[b+i].take (hd 2 ep sq).length=hd 2 ep sq
   ·rw[if_pos (by simpa using c2),if_neg (by simpa using c2)]
    have hl2:(d.seen_[b+i].drop (hd 2 ep sq).length).length≤64:=by simp;omega
    rw[qC (by omega),qa,qa,qD i (by omega),qa,qa]
    exact ih (i+1) (by omega) (by omega) f f' (by omega) (by omega) _ (by rw[List.length_append];omega)
   ·rw[if_neg (by simpa using c2),if_pos (by simpa using c2)]
    exact Same.none
  ·rw[if_neg c,if_neg c]
   exact done i all (by omega) hi1 (by omega)
theorem qlX(h:Dk N d q)(hl:d.left_≠0)(hg:idx G a0=some g)(hgd:g.d_=0)(fr at_ m b size:Nat)(hf:g.from_=fr)(hz:g.size_=size)(hb:fr+at_=b)(hsz:at_+m=size)(hN:b+m≤N){V:SS}(hV:V=(d.seen_.drop b).take m){sq:Int}(hq:I64 sq) :
  Same at_ size (M45 a0 at_ sq [d] G) (M51 V sq):=by
 have ht:=h.t
 have hNn:=h.n
 have hVl:V.length=m:=by rw[hV,List.length_take,List.length_drop];omega
 rw[M45,M51,hg,qa]
 by_cases c0:m=0
 ·rw[if_pos (by omega),if_pos (by omega)];exact Same.none
 have hiv:0<V.length:=by omega
 have hit:b<d.seen_.length:=by omega
 have hvt:V[0]=d.seen_[b]:=by subst hV;simp
 have h64:d.seen_[b].length=64:=h.t64 _ (List.getElem_mem hit)
 have hi0:idx V 0=some d.seen_[b]:=by rw[←hvt];exact qp hiv
 rw[if_neg (by omega),if_neg (by omega),qk (by omega) (by omega),qa,show g.from_+(at_:Int)=((b:Nat):Int) by omega,hgd,qbc h hl _ hit,qe,if_neg (by simp),hi0,qa]
 generalize d.seen_[b]=s at h64 hi0
 obtain⟨y,t,rfl⟩:∃y t,s=y::t:=by
  cases s with
  | nil=>simp at h64
  | cons y t=>exact⟨y,t,rfl⟩
 have hi:qaj (y::t) 0=some (y.toNat:Int):=xi (s:=y::t) (i:=0) rfl
 have hc1:cut (y::t) 0 1=some [y]:=by rw[qK (by omega) (by omega) (by omega)];simp
 rw[hi,qa,M82,hc1,qa]
 by_cases c1:y=1
 ·subst c1
  have hc2:cut ((1:UInt8)::t) 1 (((1:UInt8)::t).length:Int)=some (((1:UInt8)::t).drop 1):=by rw[qK (by omega) (by omega) (by omega)];simp
  rw[if_neg (by simp),if_neg (by decide),qa,hc2,qa,qa]
  obtain⟨a,k,e,g'⟩:=gI (((1:UInt8)::t).drop 1) (by simp at *;omega)
  have gk0:=g'.k0
  have gk1:=g'.k1
  simp only[List.length_drop,h64]at gk1
  have hc3:cut ((1:UInt8)::t) (1+k) (((1:UInt8)::t).length:Int)=some (((1:UInt8)::t).drop (1+k).toNat):=by rw[qK (by omega) (by omega) (by omega)];simp
  rw[g'.p,g'.r,qg,qg,qa,qk (by omega) (by omega),qa,qa,hc3,qa,qa]
  obtain⟨a',k',e',g2⟩:=gI (((1:UInt8)::t).drop (1+k).toNat) (by rw[List.length_drop];omega)
  have gk0':=g2.k0
  have gk1':=g2.k1
  simp only[List.length_drop,h64]at gk1'
  have hc4:cut ((1:UInt8)::t) (1+k+k') (((1:UInt8)::t).length:Int)=some (((1:UInt8)::t).drop (1+k+k').toNat):=by rw[qK (by omega) (by omega) (by omega)];simp
  rw[g2.r,qg]
  have k6:qc8 a' sq V k k' a true=some (0,[],0):=by rw[qc8,if_pos rfl]
  by_cases c2:e=0
  ·rw[if_neg (by simpa using c2),if_neg (by simpa using c2),g2.p,qg,qa,qk (by omega) (by omega),qa,hc4,qa]
   by_cases c3:e'=0
   ·rw[if_pos c3,if_neg (by simpa using c3),qg,qc8,if_neg ff]
    by_cases c4:a'=sq
    ·have hsl:(((1:UInt8)::t).drop (1+k+k').toNat).length≤64:=by rw[List.length_drop];omega
     obtain⟨n,w,e2,f1,f2,f3⟩:=qhn (((1:UInt8)::t).drop (1+k+k').toNat) (by omega)
     have w0:=f3.k0
     have w1:=f3.k1
     have n0:=f3.n0
     rw[if_pos (by simpa using c4),if_neg (by simpa using c4),hi0,qa,qk (by omega) (by omega),qa,qk (by omega) (by omega),qa,hc4,qa,f1,f2,qg,qg]
     by_cases c5:e2=0
     ·rw[if_neg (show ¬(e2≠0) by simpa using c5),if_neg (show ¬(e2≠0) by simpa using c5)]
      by_cases c6:300<n
      ·rw[if_pos c6,if_pos c6];exact Same.none
      rw[if_neg c6,if_neg c6,xk (by omega) (by omega),qk (by omega) (by omega),qa,qk (by omega) (by omega),qa,qdP g'.a64 hq,qa]
      exact qiG h hl hg hgd fr at_ m b size hf hz hb hsz hN hV g'.a64 hq n w n0 (by omega) w0 (by omega) (m-1) 1 (by omega) (by omega) big big (z7 (by omega)) (z7 (by omega)) _ (by omega)
     ·rw[if_pos c5,if_pos c5];exact Same.none
    ·rw[if_neg (by simpa using c4),if_pos (by simpa using c4)];exact Same.none
   ·rw[if_neg c3,if_pos c3,qg,if_neg ff,k6];exact Same.none
  ·rw[if_pos c2,if_pos c2,qg,if_neg ff,k6];exact Same.none
 ·have c1' : ¬((y.toNat:Int)=1):=fun hh=>c1 (by apply UInt8.toNat_inj.1;simp;omega)
  rw[if_pos (by simpa using c1),if_pos c1',qg,if_neg ff];exact Same.none
end
end Go.Proofs.YtloiiohoelhldaaGreatDoor
end
section
namespace Go.Proofs.YtloiiohoelhldaaGreatDoor
open Go.S
def rl(g:TLog):TLog122:=⟨g.d_,g.from_,g.size_,g.epoch_,g.at_,g.seq_,g.fell_⟩
structure Lg(N:Nat)(g:TLog):Prop where
 d:g.d_=0
 f0:0≤g.from_
 z0:2≤g.size_
 fz:g.from_+g.size_≤N
 e0:0≤g.epoch_
 e1:g.epoch_≤1000000
 a0:1≤g.at_
 a1:g.at_≤g.size_
 q0:0≤g.seq_
 q1:g.seq_<g.at_
def qO(g:TLog)(e:Int):TLog:=⟨g.d_,g.from_,g.size_,g.epoch_,g.at_,g.seq_,g.fell_||decide (e≠0)⟩
theorem Lg.fell{N:Nat}{g:TLog}(h:Lg N g)(e:Int):Lg N (qO g e):=⟨h.d,h.f0,h.z0,h.fz,h.e0,h.e1,h.a0,h.a1,h.q0,h.q1⟩
section
variable{N:Nat}{d:TDisk}{q:Nat}{G:List TLog}{a:Int}{g:TLog}
theorem qim(h:idx G a=some g):idx (G.map rl) a=some (rl g):=by
 obtain⟨h0,h1,h2⟩:=qf h
 unfold idx
 rw[if_pos h0,List.getElem?_map,h2];rfl
theorem qdv{β:Type}{G:List β}{g g':β}(h:idx G a=some g):upd G a g'=some (G.set a.toNat g'):=by
 obtain⟨h0,h1,h2⟩:=qf h
 exact yc h0 (by omega)
theorem qlO{g':TLog}(h:idx G a=some g):upd (G.map rl) a (rl g')=some ((G.set a.toNat g').map rl):=by
 rw[qdv (qim h),List.map_set]
theorem qmO{β:Type}{G:List β}{g g':β}(h:idx G a=some g):idx (G.set a.toNat g') a=some g':=by
 obtain⟨h0,h1,h2⟩:=qf h
 unfold idx
 rw[if_pos h0,List.getElem?_set_self (by omega)]
theorem vg{β:Type}{G:List β}{g:β}(h:idx G a=some g):G.set a.toNat g=G:=by
 obtain⟨h0,h1,h2⟩:=qf h
 obtain⟨hi,rfl⟩:=List.getElem?_eq_some_iff.1 h2
 exact List.set_getElem_self hi
theorem yh{β:Type}{G:List β}{x y:β}{i:Nat}:(G.set i x).set i y=G.set i y:=by rw[List.set_set]
theorem kg(h:idx G a=some g)(e:Int):M87 a e G=some (G.set a.toNat (qO g e),e)∧M96 a e (G.map rl)=some ((G.set a.toNat (qO g e)).map rl,e):=by
 constructor
 ·rw[M87,h,qa]
  cases hf:g.fell_ with
  | true=>rw[if_pos rfl,qdv h,qa];simp[qO,hf]
  | false=>rw[if_neg ff,qdv h,qa];simp[qO,hf]
 ·rw[M96]
  by_cases c:e=0
  ·subst c
   rw[if_neg (by decide),show qO g 0=g by cases g;simp[qO],vg h]
  ·rw[if_pos c,qim h,qa]
   have:=qlO (g':=qO g e) h
   rw[show rl (qO g e)=⟨(rl g).d_,(rl g).from_,(rl g).size_,(rl g).epoch_,(rl g).at_,(rl g).seq_,true⟩ by simp[rl,qO,c]]at this
   rw[this,qa]
def vc(g:TLog):TLog:=⟨g.d_,g.from_,g.size_,g.epoch_+1,g.at_,g.seq_,g.fell_⟩
theorem qeq(h:Dk N d q)(hq:q<2000000000000)(hg:idx G a=some g)(hL:Lg N g) :
  ∃d' g' e,M46 a [d] G=some ([d'],G.set a.toNat g',e)∧M52 a [rd d] (G.map rl)=some ([rd d'],(G.set a.toNat g').map rl,e) ∧
   Dk N d' (q+1)∧Lg N g'∧(e=0→d'.late_=[]∧g'=vc g)∧(e≠0→(g'=g∧d'=d∧e=8)∨g'=qO g e):=by
 have hll:=h.ll
 have he:=hL.e0
 have he1:=hL.e1
 rw[M46,M52,hg,qim hg,qa,qa,show(rl g).epoch_=g.epoch_ from rfl,show(rl g).d_=g.d_ from rfl,show(rl g).from_=g.from_ from rfl,hL.d]
 by_cases c1:1000000≤g.epoch_
 ·rw[if_pos c1,if_pos c1]
  exact⟨d,g,8,by rw[vg hg],by rw[vg hg],h.more (by omega),hL,fun e=>(by cases e),fun _=>.inl ⟨rfl,rfl,rfl⟩⟩
 have h64:I64 (g.epoch_+1):=⟨by omega,by omega⟩
 rw[if_neg c1,if_neg c1,qk (by omega) (by omega),qa,qa,qhH h64,qa,qj8 h64,qa]
 obtain⟨d1,e,w1,w2,w3,w4,w5⟩:=qaY h hq g.from_ (s:=aT (g.epoch_+1)) (s':=pad (aT (g.epoch_+1))) (.inr ⟨by have:=qj9 h64;omega,rfl⟩)
 rw[w1,w2,qe,qe]
 by_cases c2:e=0
 ·subst c2
  rw[if_neg (by decide),if_pos rfl,qa,qa,hL.d,show(rl g).d_=g.d_ from rfl,hL.d]
  obtain⟨d2,e',f1,f2,f3,f4,f5⟩:=qbm w3
  rw[f1,f2,qe,qe]
  by_cases c3:e'=0
  ·subst c3
   have hu:=qlO (g':=vc g) hg
   rw[if_neg (by decide),if_pos rfl,qa,qa,qk (by omega) (by omega),qa,show(rl g).epoch_=g.epoch_ from rfl,qk (by omega) (by omega),qa,qdv hg,qa]
   have hu':upd (G.map rl) a (⟨(rl g).d_,(rl g).from_,(rl g).size_,g.epoch_+1,(rl g).at_,(rl g).seq_,(rl g).fell_⟩:TLog122)=some ((G.set a.toNat (vc g)).map rl):=hu
   rw[hu',qa]
   have hf:=(kg (G:=G.set a.toNat (vc g)) (qmO hg) 0).2
   rw[show qO (vc g) 0=vc g by simp[qO,vc],yh]at hf
   rw[hf,qe]
   exact⟨d2,vc g,0,by rw[←hL.d];rfl,rfl,f3,⟨hL.d,hL.f0,hL.z0,hL.fz,by simp only[vc];omega,by simp only[vc];omega,hL.a0,hL.a1,hL.q0,hL.q1⟩,fun _=>⟨f5 rfl,rfl⟩,fun e=>absurd rfl e⟩
  ·obtain⟨k1,k2⟩:=kg hg e'
   rw[if_pos c3,if_neg c3,k1,k2,qe,qe]
   exact⟨d2,_,_,rfl,rfl,f3,hL.fell _,fun h'=>absurd h' c3,fun _=>.inr rfl⟩
 ·obtain⟨k1,k2⟩:=kg hg e
  rw[if_pos c2,if_neg c2,if_neg c2,k1,k2,qe,qe]
  exact⟨d1,_,_,rfl,rfl,w3,hL.fell _,fun h'=>absurd h' c2,fun _=>.inr rfl⟩
def adv(g:TLog)(k:Nat):TLog:=⟨g.d_,g.from_,g.size_,g.epoch_,g.at_+k,g.seq_+1,g.fell_⟩
theorem qjb(hg:idx G a=some g)(hL:Lg N g)(hN:N≤256)(hq:q<1900000000000)(Ls:SS)(h64:∀x∈Ls,x.length≤64)(hls:g.at_+Ls.length≤g.size_):∀(r j:Nat),j+r=Ls.length→∀(n n':Nat),r<n→r<n'→∀d:TDisk,Dk N d (q+j) →
  ∃d' g' e,qbA Ls G a n j [d]=some ([d'],G.set a.toNat g',e)∧qbz Ls (G.map rl) a n' j [rd d]=some ([rd d'],(G.set a.toNat g').map rl,e) ∧
   ((e=0∧g'=adv g Ls.length∧Dk N d' (q+Ls.length)∧d'.late_.length=d.late_.length+r)∨(e≠0∧g'=qO g e∧Dk N d' (q+Ls.length+1)∧e≠2∧e≠8)):=by
 have f0:=hL.f0
 have fz:=hL.fz
 have a0:=hL.a0
 have q0:=hL.q0
 have q1:=hL.q1
 intro r
 induction r with
 | zero =>
  intro j hj n n' hn hn' d h
  obtain⟨n,rfl⟩:=dec n hn
  obtain⟨n',rfl⟩:=dec n' hn'
  have hu:upd (G.map rl) a (⟨(rl g).d_,(rl g).from_,(rl g).size_,(rl g).epoch_,g.at_+Ls.length,g.seq_+1,(rl g).fell_⟩:TLog122)=some ((G.set a.toNat (adv g Ls.length)).map rl):=qlO (g':=adv g Ls.length) hg
  rw[qbA,qeX,qbz,qeU,if_neg (by omega),if_neg (by omega),qjp,qjl,hg,qim hg,qa,qa,show(rl g).at_=g.at_ from rfl,show(rl g).seq_=g.seq_ from rfl,qk (by omega) (by omega),qa,qa,qk (by omega) (by omega),qa,qa,qdv hg,qa,hu,qa]
  obtain rfl:j=Ls.length:=by omega
  exact⟨d,adv g Ls.length,0,rfl,rfl,.inl ⟨rfl,rfl,h,rfl⟩⟩
 | succ r ih =>
  intro j hj n n' hn hn' d h
  obtain⟨n,rfl⟩:=dec n (by omega)
  obtain⟨n',rfl⟩:=dec n' (by omega)
  have hjl:j<Ls.length:=by omega
  have hll:=h.ll
  rw[qbA,qeX,qbz,qeU,if_pos (by omega),if_pos (by omega),qp hjl,qa,qa,hg,qim hg,qa,qa,show(rl g).at_=g.at_ from rfl,show(rl g).from_=g.from_ from rfl,show(rl g).d_=g.d_ from rfl,hL.d,qk (by omega) (by omega),qa,qa,qk (by omega) (by omega),qa,qa]
  obtain⟨d1,e,w1,w2,w3,w4,w5⟩:=qaY h (by omega) (g.from_+g.at_+(j:Int)) (s:=Ls[j]) (s':=Ls[j]) (.inl rfl)
  have hx:=h64 Ls[j] (List.getElem_mem hjl)
  rw[w1,w2,qe,qe]
  by_cases c:e=0
  ·rw[if_neg (by simpa using c),if_neg (by simpa using c),qD j (by omega),qa,qa]
   obtain⟨d',g',e',r1,r2,r3⟩:=ih (j+1) (by omega) n n' (by omega) (by omega) d1 w3
   refine⟨d',g',e',r1,r2,?_⟩
   rcases r3 with⟨p1,p2,p3,p4⟩|p
   ·exact .inl ⟨p1,p2,p3,by have:=w5 c;omega⟩
   ·exact .inr p
  ·obtain⟨k1,k2⟩:=kg hg e
   have he:e≠2∧e≠8:=by
    have ht:=h.t
    have hs:=h.s
    have hw:=w1
    rw[M86,if_neg (by omega),i1,qa,if_neg (by omega),if_neg (by omega),qdY h]at hw
    by_cases c4:d.left_=0
    ·rw[if_pos c4,qe,if_pos (by decide)]at hw
     obtain⟨_,rfl⟩:=Prod.mk.inj (Option.some.inj hw)
     decide
    ·exfalso
     refine c ?_
     obtain⟨i,hi⟩:=Int.eq_ofNat_of_zero_le (show 0≤g.from_+g.at_+(j:Int) by omega)
     rw[if_neg c4,qe,if_neg (by decide),qk (by omega) (by omega),qa,show(64:Int)-Ls[j].length=((64-Ls[j].length:Nat):Int) by omega,qcr _ (by omega),qa,qC (by simp;omega),qa,i1,qa,hi,qp (show i<d.seen_.length by omega),qa,
      yc (by omega) (show(i:Int)<d.seen_.length by omega),qa,qE (by simp;omega),qa,u1,qa]at hw
     exact(Prod.mk.inj (Option.some.inj hw)).2.symm
   rw[if_pos c,if_pos c,k1,k2,qe,qe]
   exact⟨d1,_,_,rfl,rfl,.inr ⟨c,rfl,w3.more (by have:=w3.ll;omega),he⟩⟩
def qn9(N q:Nat)(d:TDisk)(g:TLog)(d':TDisk)(g':TLog)(e:Int):Prop:=
 (e≠0∧d'=d∧g'=g∧(g.fell_=false→e=2∨e=8))∨(e=0∧(∃k:Nat,g'=adv g k∧d'.late_.length=d.late_.length+k)∧g'.at_≤g.size_∧Dk N d' (q+256)∧Lg N g')∨(e≠0∧g'=qO g e∧Dk N d' (q+257)∧e≠2∧e≠8)
theorem qcX(h:Dk N d q)(hq:q<1900000000000)(hg:idx G a=some g)(hL:Lg N g)(s:List UInt8) :
  ∃d' g' e,M66 a s [d] G=some ([d'],G.set a.toNat g',e)∧M71 a s [rd d] (G.map rl)=some ([rd d'],(G.set a.toNat g').map rl,e)∧qn9 N q d g d' g' e:=by
 have hN:=h.n
 have e0:=hL.e0
 have e1:=hL.e1
 have a0:=hL.a0
 have a1:=hL.a1
 have z0:=hL.z0
 have f0:=hL.f0
 have fz:=hL.fz
 have q0:=hL.q0
 have q1:=hL.q1
 rw[M66,M71,hg,qim hg,qa,qa,show(rl g).fell_=g.fell_ from rfl,show(rl g).epoch_=g.epoch_ from rfl,show(rl g).at_=g.at_ from rfl,show(rl g).seq_=g.seq_ from rfl,show(rl g).size_=g.size_ from rfl]
 have none_:∀e:Int,e≠0→(g.fell_=false→e=2∨e=8)→∃d' g' e',(some ([d],G,e):Option (List TDisk×List TLog×Int))=some ([d'],G.set a.toNat g',e')∧(some ([rd d],G.map rl,e):Option (List TDisk51×List TLog122×Int))=some ([rd d'],(G.set a.toNat g').map rl,e')∧qn9 N q d g d' g' e':=
  fun e he hf=>⟨d,g,e,by rw[vg hg],by rw[vg hg],.inl ⟨he,rfl,rfl,hf⟩⟩
 cases hf:g.fell_ with
 | true=>rw[if_pos rfl,if_pos rfl];exact none_ 10 (by decide) (fun h=>by rw[hf]at h;cases h)
 | false =>
  rw[if_neg ff,if_neg ff]
  by_cases c1:(300:Int)<s.length
  ·rw[if_pos c1,if_pos c1];exact none_ 2 (by decide) (fun _=>.inl rfl)
  obtain⟨Ls,g1,g2,g3,g4,g5⟩:=qjM (e:=g.epoch_) (q:=g.seq_) ⟨by omega,by omega⟩ ⟨by omega,by omega⟩ (s:=s) (by omega)
  rw[if_neg c1,if_neg c1,g1,g2,qa,qa,qk (by omega) (by omega),qa,qk (by omega) (by omega),qa]
  by_cases c2:g.size_<g.at_+(Ls.length:Int)
  ·rw[if_pos c2,if_pos (by omega)];exact none_ 8 (by decide) (fun _=>.inr rfl)
  rw[if_neg c2,if_neg (by omega)]
  obtain⟨d',g',e,r1,r2,r3⟩:=qjb hg hL hN hq Ls g3 (by omega) Ls.length 0 (by omega) big big (z7 (by omega)) (z7 (by omega)) d h
  refine⟨d',g',e,r1,r2,?_⟩
  rcases r3 with⟨rfl,rfl,p3,p4⟩|⟨p1,rfl,p3,p4⟩
  ·exact .inr (.inl ⟨rfl,⟨Ls.length,rfl,p4⟩,by simp only[adv];omega,p3.more (by have:=p3.ll;omega),⟨hL.d,f0,z0,fz,e0,e1,by simp only[adv];omega,by simp only[adv];omega,by simp only[adv];omega,by simp only[adv];omega⟩⟩)
  ·exact .inr (.inr ⟨p1,rfl,p3.more (by have:=p3.ll;omega),p4⟩)
theorem qgI(h:Dk N d q)(hg:idx G a=some g)(hL:Lg N g)(hf:g.fell_=false) :
  ∃d' e,M67 a [d] G=some ([d'],G.set a.toNat (qO g e),e)∧M72 a [rd d] (G.map rl)=some ([rd d'],(G.set a.toNat (qO g e)).map rl,e)∧Dk N d' q∧(e=0→d'.late_=[]):=by
 obtain⟨d',e,f1,f2,f3,f4,f5⟩:=qbm h
 obtain⟨k1,k2⟩:=kg hg e
 rw[M67,M72,hg,qim hg,qa,qa,show(rl g).fell_=g.fell_ from rfl,show(rl g).d_=g.d_ from rfl,hL.d,hf,if_neg ff,if_neg ff,f1,f2,qe,qe,k1,k2,qe,qe]
 exact⟨d',e,rfl,rfl,f3,f5⟩
end
end Go.Proofs.YtloiiohoelhldaaGreatDoor
end
section
namespace Go.Proofs.YtloiiohoelhldaaGreatDoor
open Go.S
section
variable{N:Nat}{d:TDisk}{q:Nat}{G:List TLog}{a:Int}{g:TLog}
def rst(g:TLog):TLog:=⟨g.d_,g.from_,g.size_,g.epoch_+1,2,1,g.fell_⟩
theorem Lg.up{N:Nat}{g:TLog}(h:Lg N g)(he:g.epoch_<1000000):Lg N (vc g):=⟨h.d,h.f0,h.z0,h.fz,by have:=h.e0;simp only[vc];omega,by simp only[vc];omega,h.a0,h.a1,h.q0,h.q1⟩
theorem qiF(h:Dk N d q)(hq:q<1900000000000)(hg:idx G a=some g)(hL:Lg N g)(hf:g.fell_=false)(s:List UInt8) :
  ∃d' g' e,M62 a s [d] G=some ([d'],G.set a.toNat g',e)∧M73 a s [rd d] (G.map rl)=some ([rd d'],(G.set a.toNat g').map rl,e)∧Dk N d' (q+2)∧(e=0→d'.late_=[]∧g'=rst g∧Lg N g'):=by
 have hN:=h.n
 have e0:=hL.e0
 have e1:=hL.e1
 have f0:=hL.f0
 have fz:=hL.fz
 have z0:=hL.z0
 have hll:=h.ll
 rw[M62,M73,hg,qim hg,qa,qa,show(rl g).fell_=g.fell_ from rfl,show(rl g).epoch_=g.epoch_ from rfl,hf,if_neg ff,if_neg ff]
 have none_:∀e:Int,e≠0→∃d' g' e',(some ([d],G,e):Option (List TDisk×List TLog×Int))=some ([d'],G.set a.toNat g',e')∧(some ([rd d],G.map rl,e):Option (List TDisk51×List TLog122×Int))=some ([rd d'],(G.set a.toNat g').map rl,e')∧Dk N d' (q+2)∧(e'=0→d'.late_=[]∧g'=rst g∧Lg N g'):=
  fun e he=>⟨d,g,e,by rw[vg hg],by rw[vg hg],h.more (by omega),fun h'=>absurd h' he⟩
 by_cases c1:(300:Int)<s.length
 ·rw[if_pos c1,if_pos c1];exact none_ 2 (by decide)
 obtain⟨Ls,g1,g2,g3,g4,g5⟩:=qjM (e:=g.epoch_+1) (q:=0) ⟨by omega,by omega⟩ ⟨by omega,by omega⟩ (s:=s) (by omega)
 rw[if_neg c1,if_neg c1,qk (by omega) (by omega),qa,qa,g1,g2,qa,qa]
 by_cases c2:1<(Ls.length:Int)
 ·rw[if_pos c2,if_pos (by omega)];exact none_ 8 (by decide)
 rw[if_neg c2,if_neg (by omega)]
 have hL0:idx Ls 0=some Ls[0]:=qp (i:=0) g4
 obtain⟨d1,gu,e,r1,r2,r3,r4,r5,r6⟩:=qeq h (by omega) hg hL
 rw[r1,r2,qg,qg]
 by_cases c3:e=0
 ·obtain⟨hl1,rfl⟩:=r5 c3
  subst c3
  have hg1:idx (G.set a.toNat (vc g)) a=some (vc g):=qmO hg
  rw[if_neg (by decide),if_neg (by decide),hg1,qim hg1,qa,qa,show(vc g).from_=g.from_ from rfl,show(rl (vc g)).from_=g.from_ from rfl,show(vc g).epoch_=g.epoch_+1 from rfl,show(rl (vc g)).epoch_=g.epoch_+1 from rfl,show(rl (vc g)).d_=g.d_ from rfl,show(vc g).d_=g.d_ from rfl,hL.d,qk (by omega) (by omega),qa,qa,g1,g2,qa,qa,hL0,qa,qa]
  obtain⟨d2,e2,w1,w2,w3,w4,w5⟩:=qaY (r3.more (q':=q+1) (by rw[hl1];simp)) (by omega) (g.from_+1) (s:=Ls[0]) (s':=Ls[0]) (.inl rfl)
  rw[w1,w2,qe,qe]
  by_cases c4:e2=0
  ·subst c4
   obtain⟨d3,e3,v1,v2,v3,v4,v5⟩:=qbm w3
   rw[if_neg (by simp),if_pos rfl,qa,qa,show(rl (vc g)).d_=g.d_ from rfl,show(vc g).d_=g.d_ from rfl,hL.d,v1,v2,qe,qe]
   by_cases c5:e3=0
   ·subst c5
    have hu:upd ((G.set a.toNat (vc g)).map rl) a (⟨(rl (vc g)).d_,(rl (vc g)).from_,(rl (vc g)).size_,(rl (vc g)).epoch_,2,1,(rl (vc g)).fell_⟩:TLog122)=some (((G.set a.toNat (vc g)).set a.toNat (rst g)).map rl):=qlO (g':=rst g) hg1
    have hg2:idx ((G.set a.toNat (vc g)).set a.toNat (rst g)) a=some (rst g):=qmO hg1
    have hfl:=(kg hg2 0).2
    rw[show qO (rst g) 0=rst g by simp[qO,rst],yh,yh]at hfl
    rw[yh]at hu
    rw[if_neg (by simp),if_pos rfl,qa,qa,qdv hg1,qa,hu,qa,hfl,qe,yh]
    exact⟨d3,rst g,0,by rw[←hL.d];rfl,rfl,v3,fun _=>⟨v5 rfl,rfl,⟨hL.d,f0,z0,fz,by simp only[rst];omega,r4.e1,by simp[rst],by simpa [rst]using z0,by simp[rst],by simp[rst]⟩⟩⟩
   ·obtain⟨k1,k2⟩:=kg hg1 e3
    rw[if_pos c5,if_neg c5,k1,k2,qe,qe,yh]
    exact⟨d3,_,_,rfl,rfl,v3,fun h'=>absurd h' c5⟩
  ·obtain⟨k1,k2⟩:=kg hg1 e2
   rw[if_pos c4,if_neg c4,if_neg c4,k1,k2,qe,qe,yh]
   exact⟨d2,_,_,rfl,rfl,w3,fun h'=>absurd h' c4⟩
 ·rw[if_pos c3,if_pos c3]
  exact⟨d1,gu,e,rfl,rfl,r3.more (by have:=r3.ll;omega),fun h'=>absurd h' c3⟩
def xp(fr sz:Nat)(ep:Int)(at_ sq:Nat):TLog:=⟨0,fr,sz,ep,at_,sq,false⟩
theorem jq{β:Type}{G:List β}{x y:β}:(G++[x]).set ((G.length:Int)).toNat y=G++[y]:=by simp
theorem qnr{β:Type}(G:List β)(x:β):idx (G++[x]) (G.length:Int)=some x:=by rw[qp (by simp)];simp
theorem qon(G:List TLog)(x:TLog):(G++[x]).map rl=G.map rl++[rl x]:=by simp
theorem qg2(h:Dk N d q)(hl:d.left_≠0)(G:List TLog)(fr sz:Nat)(hf:fr+sz≤N)(ep:Int){A:SS}(hA:A=(d.seen_.drop fr).take sz):∀(r at_:Nat),at_+r=sz→1≤at_→∀(n n':Nat),r<n→r<n'→∀(sq:Nat),sq<at_→∀(last:Int) (out:SS),out.length≤sq→(∀x∈out,x.length≤1000) →
  ∃(out':SS) (at' sq':Nat),qdl G.length [d] n out last (G++[xp fr sz ep at_ sq])=qea [d] G.length out' (G++[xp fr sz ep at' sq']) ∧
   qdi G.length A [rd d] n' out last ((G++[xp fr sz ep at_ sq]).map rl)=qgl [rd d] G.length out' ((G++[xp fr sz ep at' sq']).map rl)∧1≤at'∧at'≤sz∧sq'<at'∧out'.length≤sq'∧∀x∈out',x.length≤1000:=by
 have ht:=h.t
 have hNn:=h.n
 have hAl:A.length=sz:=by rw[hA,List.length_take,List.length_drop];omega
 intro r
 induction r using Nat.strongRecOn with
 | _ r ih =>
 intro at_ hat h1 n n' hn hn' sq hsq last out hout hox
 obtain⟨n,rfl⟩:=dec n (by omega)
 obtain⟨n',rfl⟩:=dec n' (by omega)
 have hc:cut A (at_:Int) (A.length:Int)=some (A.drop at_):=by rw[qK (by omega) (by omega) (by omega)];simp
 have hV:A.drop at_=(d.seen_.drop (fr+at_)).take r:=by
  rw[hA,List.drop_take,List.drop_drop,show sz-at_=r by omega]
 have hg:idx (G++[xp fr sz ep at_ sq]) (G.length:Int)=some (xp fr sz ep at_ sq):=qnr _ _
 have hgm:=qim hg
 rw[qdl,qia,qdi,qh8,hg,hgm,qa,qa,show(rl (xp fr sz ep at_ sq)).at_=(at_:Int) from rfl,show(rl (xp fr sz ep at_ sq)).seq_=(sq:Int) from rfl,show(xp fr sz ep at_ sq).at_=(at_:Int) from rfl,show(xp fr sz ep at_ sq).seq_=(sq:Int) from rfl,hc,qa]
 have hR:=qlX h hl hg rfl fr at_ r (fr+at_) sz rfl rfl rfl hat (by omega) hV (sq:=(sq:Int)) ⟨by omega,by omega⟩
 rcases hR with⟨e1,e2⟩|⟨ep',tx,z,e1,e2,z1,z2,z3⟩
 ·rw[e1,e2,qe,qg,if_neg ff,if_pos rfl,qgr,if_neg ff,hg,qa,qdj,if_pos rfl]
  exact⟨out,at_,sq,rfl,rfl,h1,by omega,hsq,hout,hox⟩
 ·rw[e1,e2,qe,qg,if_pos rfl,if_neg (by omega)]
  dsimp only
  rw[qgr,if_pos rfl,hg,qa]
  by_cases c1:ep'<last
  ·rw[if_pos c1,if_pos c1,qdj,if_pos rfl]
   exact⟨out,at_,sq,rfl,rfl,h1,by omega,hsq,hout,hox⟩
  rw[if_neg c1,if_neg c1,qdj,if_neg ff,hgm,qa,show(xp fr sz ep at_ sq).epoch_=ep from rfl,show(rl (xp fr sz ep at_ sq)).epoch_=ep from rfl]
  by_cases c2:ep<ep'
  ·rw[if_pos c2,if_pos c2]
   exact⟨out,at_,sq,rfl,rfl,h1,by omega,hsq,hout,hox⟩
  obtain⟨z,rfl⟩:=Int.eq_ofNat_of_zero_le (show 0≤z by omega)
  have hu:upd ((G++[xp fr sz ep at_ sq]).map rl) (G.length:Int) (rl (xp fr sz ep (at_+z) (sq+1)))=some ((G++[xp fr sz ep (at_+z) (sq+1)]).map rl):=by rw[qlO hg,jq]
  have hu2:upd (G++[xp fr sz ep at_ sq]) (G.length:Int) (xp fr sz ep (at_+z) (sq+1))=some (G++[xp fr sz ep (at_+z) (sq+1)]):=by rw[qdv hg,jq]
  have a1:i64 ((at_:Int)+(z:Int))=some (((at_+z:Nat):Int)):=by rw[qk (by omega) (by omega)];simp
  have a2:i64 ((sq:Int)+1)=some (((sq+1:Nat):Int)):=qD sq (by omega)
  rw[if_neg c2,if_neg c2,show(xp fr sz ep at_ sq).at_=(at_:Int) from rfl,show(rl (xp fr sz ep at_ sq)).at_=(at_:Int) from rfl,show(xp fr sz ep at_ sq).seq_=(sq:Int) from rfl,show(rl (xp fr sz ep at_ sq)).seq_=(sq:Int) from rfl,a1,a2,qE (by simp;omega),qa,qa,qa,qa,qa,qa]
  have hu':upd ((G++[xp fr sz ep at_ sq]).map rl) (G.length:Int) (⟨(rl (xp fr sz ep at_ sq)).d_,(rl (xp fr sz ep at_ sq)).from_,(rl (xp fr sz ep at_ sq)).size_,ep,((at_+z:Nat):Int),((sq+1:Nat):Int),(rl (xp fr sz ep at_ sq)).fell_⟩:TLog122)=_:=hu
  have hu2':upd (G++[xp fr sz ep at_ sq]) (G.length:Int) (⟨(xp fr sz ep at_ sq).d_,(xp fr sz ep at_ sq).from_,(xp fr sz ep at_ sq).size_,ep,((at_+z:Nat):Int),((sq+1:Nat):Int),(xp fr sz ep at_ sq).fell_⟩:TLog)=_:=hu2
  rw[hu',hu2',qa,qa]
  exact ih (r-z) (by omega) (at_+z) (by omega) (by omega) n n' (by omega) (by omega) (sq+1) (by omega) ep' _ (by simp;omega) (fun x hx=>by
   rcases List.mem_append.1 hx with hx|hx
   ·exact hox x hx
   ·rw[List.mem_singleton]at hx;subst hx;exact z3)
theorem qg3(h:Dk N d q)(hq:q<1900000000000)(G:List TLog)(a1 a2:Int) :
  (∃d' G' e,e≠0∧M20 0 a1 a2 [d] G=some ([d'],G',-1,[],e)∧M22 0 a1 a2 [rd d] (G.map rl)=some ([rd d'],G'.map rl,-1,[],e)) ∨
  (∃(d':TDisk) (g':TLog) (out:SS),M20 0 a1 a2 [d] G=some ([d'],G++[g'],(G.length:Int),out,0)∧M22 0 a1 a2 [rd d] (G.map rl)=some ([rd d'],(G++[g']).map rl,(G.length:Int),out,0) ∧
   Dk N d' 0∧Lg N g'∧g'.fell_=false∧out.length≤256∧∀x∈out,x.length≤1000):=by
 have ht:=h.t
 have hs:=h.s
 have hNn:=h.n
 have bad:∀e:Int,e≠0→(∃d' G' e',e'≠0∧(some ([d],G,-1,[],e):Option (List TDisk×List TLog×Int×SS×Int))=some ([d'],G',-1,[],e')∧(some ([rd d],G.map rl,-1,[],e):Option (List TDisk51×List TLog122×Int×SS×Int))=some ([rd d'],G'.map rl,-1,[],e')):=fun e he=>⟨_,_,_,he,rfl,rfl⟩
 have k1:qdm [d] G 0 a1 a2 true=some ([d],G,-1,[],1):=by rw[qdm,if_pos rfl]
 have k2:qdk [rd d] (G.map rl) 0 a1 a2 true=some ([rd d],G.map rl,-1,[],1):=by rw[qdk,if_pos rfl]
 have hlen:M19 0 [d]=some (N:Int):=by rw[M19,i1,qa,hs]
 rw[M20,M22]
 by_cases c1:a1<0
 ·rw[if_pos c1,if_pos c1,k1,k2];exact .inl (bad 1 (by decide))
 rw[if_neg c1,if_neg c1]
 by_cases c2:a2<2
 ·rw[if_pos c2,if_pos c2,k1,k2];exact .inl (bad 1 (by decide))
 rw[if_neg c2,if_neg c2,qdm,qdk,if_neg ff,if_neg ff,hlen,qa,qa,i1,qa,show(rd d).Seen=d.seen_ from rfl,ht]
 by_cases c3:(N:Int)<a1
 ·rw[if_pos c3,if_pos c3];exact .inl (bad 1 (by decide))
 rw[if_neg c3,if_neg c3,qk (by omega) (by omega),qa,qa]
 by_cases c4:(N:Int)-a1<a2
 ·rw[if_pos c4,if_pos c4];exact .inl (bad 1 (by decide))
 obtain⟨fr,rfl⟩:=Int.eq_ofNat_of_zero_le (show 0≤a1 by omega)
 obtain⟨sz,rfl⟩:=Int.eq_ofNat_of_zero_le (show 0≤a2 by omega)
 have hit:fr<d.seen_.length:=by omega
 rw[if_neg c4,if_neg c4,M49,i1,qa,show(rd d).left_=d.left_ from rfl,qa]
 by_cases c5:d.left_=0
 ·have e1:M16 0 (fr:Int) [d]=some ([],13):=by rw[M16,if_neg (by omega),i1,qa,if_neg (by omega),if_pos c5]
  rw[e1,qe,if_pos (by decide),if_pos (by simpa using c5)]
  exact .inl (bad 13 (by decide))
 have hA:cut d.seen_ (fr:Int) ((fr:Int)+(sz:Int))=some ((d.seen_.drop fr).take sz):=by
  rw[qK (by omega) (by omega) (by omega)]
  congr 1
  rw[List.drop_take]
  congr 1
  ·omega
 have hAl:((d.seen_.drop fr).take sz).length=sz:=by rw[List.length_take,List.length_drop];omega
 have hi0:idx ((d.seen_.drop fr).take sz) 0=some d.seen_[fr]:=by
  have:=qp (l:=(d.seen_.drop fr).take sz) (i:=0) (by omega)
  rw[show((0:Nat):Int)=0 from rfl]at this
  rw[this];simp
 rw[qbc h c5 fr hit,qe,if_neg (by simp),if_neg (by simpa using c5),qa,qk (by omega) (by omega),qa,show(rd d).Seen=d.seen_ from rfl,hA,qa,hi0,qa]
 have h64:d.seen_[fr].length=64:=h.t64 _ (List.getElem_mem hit)
 rcases qiX d.seen_[fr] h64 with⟨ep,g1,g2,g3,g4⟩|⟨g1,g2⟩
 ·rw[g1,g2,qe,qa,if_neg (by decide),if_neg (by omega),qal,qal,qe,qe]
  obtain⟨out,at_,sq,e1,e2,p1,p2,p3,p4,p5⟩:=qg2 h c5 G fr sz (by omega) ep rfl (sz-1) 1 (by omega) (by omega) big big (z7 (by omega)) (z7 (by omega)) 0 (by omega) 0 [] (by simp) (by simp)
  rw[qon]at e2
  rw[show xp fr sz ep 1 0=(⟨0,fr,sz,ep,1,0,false⟩:TLog) from rfl]at e1 e2
  rw[show(G.map rl).length=G.length by simp,e1,show(⟨0,(fr:Int),(sz:Int),ep,1,0,false⟩:TLog122)=rl ⟨0,fr,sz,ep,1,0,false⟩ from rfl,e2,qea,qgl]
  have hL:Lg N (xp fr sz ep at_ sq):=⟨rfl,by simp[xp],by simp[xp];omega,by simp[xp];omega,g3,g4,by simp[xp];omega,by simp[xp];omega,by simp[xp],by simp[xp];omega⟩
  obtain⟨d',g',e,r1,r2,r3,r4,r5,r6⟩:=qeq h (by omega) (qnr G (xp fr sz ep at_ sq)) hL
  rw[jq]at r1 r2
  rw[r1,r2,qg,qg,zf (by simp),qa,zf (by simp),qa]
  by_cases c6:e=0
  ·obtain⟨q1,rfl⟩:=r5 c6
   subst c6
   rw[if_neg (by decide),if_neg (by decide)]
   exact .inr ⟨d',_,out,rfl,rfl,r3.more (by rw[q1];simp),r4,rfl,by omega,p5⟩
  ·rw[if_pos c6,if_pos c6]
   exact .inl ⟨d',_,e,c6,rfl,rfl⟩
 ·rw[g1,g2,qe,qa,if_pos (by decide),if_pos (by decide)]
  exact .inl (bad 4 (by decide))
end
end Go.Proofs.YtloiiohoelhldaaGreatDoor
end
section
namespace Go.Proofs.YtloiiohoelhldaaGreatDoor
open Go.S
theorem qhh{α:Type}{l:List α}{k:Int}{n:Nat}(hl:l.length=n)(h0:0≤k)(h1:k<n):∃x,zd n l k=some x∧idx l k=some x:=by
 obtain⟨x,hx⟩:=qhe (S:=l) h0 (by omega)
 exact⟨x,by rw[zd,if_pos h1];exact hx,hx⟩
theorem qbt{b:UInt8}{s:List UInt8}:cut (b::s) 0 1=some [b]∧cut (b::s) 1 ((b::s).length:Int)=some s:=by
 constructor
 ·rw[qK (by omega) (by omega) (by simp;omega)];simp
 ·rw[qK (by omega) (by simp;omega) (by omega)];simp
def V20(v:SS):Prop:=v.length=20∧∀x∈v,x.length≤20
theorem V20.set{v:SS}(h:V20 v)(i:Nat){x:List UInt8}(hx:x.length≤20):V20 (v.set i x):=⟨by rw[List.length_set];exact h.1,qbh (P:=fun x=>x.length≤20) h.2 hx⟩
abbrev PG:=Int→Int→Bool→SS→Option (Timage×Bool)
abbrev RG:=Int→Bool→Int→SS→Option (Int×Bool×SS×Bool)
def Bad(p:Option (Timage×Bool))(r:Option (Int×Bool×SS×Bool)):Prop:=(∃m,p=some (m,false)∧m.values_.length=20)∧∃g w v,r=some (g,w,v,false)∧v.length=20
theorem vh{v:SS}(h:v.length=20):(qb (qs 20 v) fun _=>qb (qs 20 v) fun _=>qb (qs 20 v) fun _=>qb (qs 20 v) fun _=>(some (0,false,v,false):Option (Int×Bool×SS×Bool)))=some (0,false,v,false):=by
 rw[qh h];rfl
theorem xa{v:SS}(h:v.length=20)(g:Int)(w:Bool):(qb (qs 20 v) fun _=>some ((⟨g,w,v⟩:Timage),false))=some (⟨g,w,v⟩,false):=by
 rw[qh h];rfl
theorem qiK(g:Int)(w:Bool)(i:Int)(gp:PG)(gr:RG):∀(k:Nat) (s:List UInt8),s.length=k→k≤1000→∀(n n':Nat),k<n→k<n'→∀v:SS,V20 v →
  Bad (jf g w i gp n s v) (qau i gr g w n' s v)∨∃v',V20 v'∧jf g w i gp n s v=qah i gp g w v'∧qau i gr g w n' s v=qdh i gr g w v':=by
 intro k
 induction k using Nat.strongRecOn with
 | _ k ih =>
 intro s hs hk n n' hn hn' v hv
 obtain⟨n,rfl⟩:=dec n (by omega)
 obtain⟨n',rfl⟩:=dec n' (by omega)
 rw[jf,qh9,qau,qh7]
 by_cases c0:s=[]
 ·rw[if_neg (by simpa using c0),if_neg (by simpa using c0)]
  exact .inr ⟨v,hv,rfl,rfl⟩
 rw[if_pos c0,if_pos c0]
 obtain⟨a,j,e,h⟩:=gI s (by omega)
 have j0:=h.k0
 have j1:=h.k1
 have k1:qda a s j true=some (0,[],[],false):=by rw[qda,if_pos rfl]
 have k6:qdg v a s j (qau i gr g w n') true=some (0,false,v,false):=by rw[qdg,if_pos rfl,vh hv.1]
 rw[M48,h.p,h.r,qg,qg]
 by_cases c1:e=0
 ·have j2:=h.k2 c1
  rw[if_neg (show ¬(e≠0) by simpa using c1),if_neg (show ¬(e≠0) by simpa using c1)]
  by_cases c2:a<0
  ·rw[if_pos c2,if_pos c2,k1,k6,qH,if_neg ff,xa hv.1];exact .inl ⟨⟨_,rfl,hv.1⟩,_,_,_,rfl,hv.1⟩
  rw[if_neg c2,if_neg c2,qda,qdg,if_neg ff,if_neg ff]
  by_cases c3:20≤a
  ·rw[if_pos c3,if_pos (by omega),qH,if_neg ff,xa hv.1,vh hv.1];exact .inl ⟨⟨_,rfl,hv.1⟩,_,_,_,rfl,hv.1⟩
  have hc:cut s j (s.length:Int)=some (s.drop j.toNat):=by rw[qK (by omega) (by omega) (by omega)];simp
  obtain⟨t,l,e2,t1,t2,t3⟩:=gT (s.drop j.toNat) (by rw[List.length_drop];omega)
  rw[if_neg c3,if_neg (by omega),hc,qa,qa,t1,t2,qg,qg]
  by_cases c4:e2=0
  ·obtain⟨l0,l1⟩:=t3 c4
   rw[List.length_drop]at l1
   rw[if_neg (show ¬(e2≠0) by simpa using c4),if_neg (show ¬(e2≠0) by simpa using c4)]
   by_cases c5:(20:Int)<t.length
   ·rw[if_pos c5,if_pos c5,qH,if_neg ff,xa hv.1,vh hv.1];exact .inl ⟨⟨_,rfl,hv.1⟩,_,_,_,rfl,hv.1⟩
   have hc2:cut s (j+l) (s.length:Int)=some (s.drop (j+l).toNat):=by rw[qK (by omega) (by omega) (by omega)];simp
   obtain⟨y,hy,_⟩:=qhh hv.1 (by omega:0≤a) (by omega)
   rw[if_neg c5,if_neg c5,qk (by omega) (by omega),qa,qa,hc2,qa,qa,qH,if_pos rfl,hy,qa,qa,yc (by omega) (by rw[hv.1];omega),qa,qa]
   exact ih (s.drop (j+l).toNat).length (by rw[List.length_drop];omega) _ rfl (by rw[List.length_drop];omega) n n' (by rw[List.length_drop];omega) (by rw[List.length_drop];omega) _ (hv.set _ (by omega))
  ·rw[if_pos c4,if_pos c4,qH,if_neg ff,xa hv.1,vh hv.1];exact .inl ⟨⟨_,rfl,hv.1⟩,_,_,_,rfl,hv.1⟩
 ·rw[if_pos c1,if_pos c1,k1,k6,qH,if_neg ff,xa hv.1];exact .inl ⟨⟨_,rfl,hv.1⟩,_,_,_,rfl,hv.1⟩
theorem l3(g:Int)(w:Bool)(i:Int)(gp:PG):∀n s v,qbW g w i gp n s v=jf g w i gp n s v:=fun n=>by
 induction n with
 | zero=>intros;rfl
 | succ n ih=>intro s v;rw[qbW,jf,show qbW g w i gp n=jf g w i gp n from funext fun s=>funext fun v=>ih s v];rfl
theorem l4(g:Int)(w:Bool)(i:Int)(gp:PG):∀n s v,qbV g w i gp n s v=jf g w i gp n s v:=fun n=>by
 induction n with
 | zero=>intros;rfl
 | succ n ih=>intro s v;rw[qbV,jf,show qbV g w i gp n=jf g w i gp n from funext fun s=>funext fun v=>ih s v];rfl
theorem l5(g:Int)(w:Bool)(i:Int)(gp:PG):∀n s v,qbU g w i gp n s v=jf g w i gp n s v:=fun n=>by
 induction n with
 | zero=>intros;rfl
 | succ n ih=>intro s v;rw[qbU,jf,show qbU g w i gp n=jf g w i gp n from funext fun s=>funext fun v=>ih s v];rfl
theorem qnQ(b c:UInt8)(s:List UInt8):M39 (b::s) [c]=some (decide (b=c)):=by
 rw[M39,M77,if_pos (by simp;omega),show(([c]:List UInt8).length:Int)=1 from rfl,qbt.1,qa,qa]
 simp
def qll(p:Option (Timage×Bool))(r:Option (Int×Bool×SS×Bool)):Prop:=Bad p r∨∃m,p=some (m,true)∧r=some (m.gen_,m.whole_,m.values_,true)∧V20 m.values_
theorem qiU(l:SS)(hl:l.length≤256)(hx:∀x∈l,x.length≤1000):∀(r i:Nat),i+r=l.length→∀n n',r<n→r<n'→∀(g:Int) (w:Bool) (v:SS),V20 v →
  qll (kj l n i g w v) (ki l n' g w i v):=by
 intro r
 induction r with
 | zero =>
  intro i hi n n' hn hn' g w v hv
  obtain⟨n,rfl⟩:=dec n hn
  obtain⟨n',rfl⟩:=dec n' hn'
  rw[kj,qfs,ki,qfr,if_neg (by omega),if_neg (by omega),qjB,qjA,qh hv.1]
  refine .inr ⟨⟨g,w,v⟩,rfl,?_,hv⟩
  cases w<;>rfl
 | succ r ih =>
  intro i hi n n' hn hn' g w v hv
  obtain⟨n,rfl⟩:=dec n (by omega)
  obtain⟨n',rfl⟩:=dec n' (by omega)
  have h1:i<l.length:=by omega
  have hxi:=hx l[i] (List.getElem_mem h1)
  have next:∀(g:Int) (w:Bool) (v:SS),V20 v→qll (qah i (kj l n) g w v) (qdh i (ki l n') g w v):=by
   intro g w v hv
   rw[qah,qdh,qD i (by omega),qa]
   cases w with
   | true=>rw[if_pos rfl,qa];exact ih (i+1) (by omega) n n' (by omega) (by omega) g true v hv
   | false=>rw[if_neg ff,qa];exact ih (i+1) (by omega) n n' (by omega) (by omega) g false v hv
  rw[kj,qfs,ki,qfr,if_pos (by omega),if_pos (by omega),qp h1,qa,qa]
  generalize l[i]=x at hxi
  have rbad:qav x i (ki l n') g w v false=some (0,false,v,false):=by rw[qav,if_neg ff,vh hv.1]
  cases x with
  | nil =>
   have hp:∀c:UInt8,M39 [] [c]=some false:=fun c=>by rw[M39,M77,if_neg (by simp),qa]
   have e3:qbT [] v i (ki l n') w g false=some (0,false,v,false):=by
    cases w<;>simp[qbT,qd9,qd8,qd7,hp,rbad]
   rw[if_pos rfl,xa hv.1]
   refine .inl ⟨⟨_,rfl,hv.1⟩,0,false,v,?_,hv.1⟩
   by_cases c:(i:Int)=0
   ·rw[if_pos c,hp,qa,if_neg ff,kz,if_neg ff,e3]
   ·rw[if_neg c,kz,if_neg ff,e3]
  | cons b s =>
   simp only[List.length_cons]at hxi
   have hc2:=(qbt (b:=b) (s:=s)).2
   have rest:∀(q:Bool),q=false→qll (qaw s v g w i (kj l n) [b] q) (qbT (b::s) v i (ki l n') w g q):=by
    rintro q rfl
    have prs:=qiK g w i (kj l n) (ki l n') s.length s rfl (by omega) big big (z7 (by omega)) (z7 (by omega)) v hv
    have good:qll (jf g w i (kj l n) big s v) (qav (b::s) i (ki l n') g w v true):=by
     rw[qav,if_pos rfl,hc2,qa]
     rcases prs with h|⟨v',hv',h1,h2⟩
     ·exact .inl h
     ·rw[h1,h2];exact next g w v' hv'
    have bad:∀m:Timage,m.values_.length=20→qll (some (m,false)) (qav (b::s) i (ki l n') g w v false):=fun m hm=>by rw[rbad];exact .inl ⟨⟨_,rfl,hm⟩,_,_,_,rfl,hv.1⟩
    have hD:(([b]:List UInt8)=[68])=(b=68):=by simp
    have hS:(([b]:List UInt8)=[83])=(b=83):=by simp
    have hC:(([b]:List UInt8)=[67])=(b=67):=by simp
    have hDD:((b::s)=[68])=(b=68∧s=[]):=by simp
    rw[qaw,qbT,if_neg ff,if_neg ff]
    simp only[qgq,qgp,qgo,qgn,qgm,qd9,qd8,qd7,qnQ,qa,xa hv.1,l3,l4,l5,hD,hS,hC,hDD,decide_eq_true_eq]
    by_cases d1:b=68
    ·subst d1
     by_cases d2:s=[]
     ·cases w with
      | true=>subst d2;simp only[if_true,if_neg ff,and_self,if_neg (show ¬((68:UInt8)=83) by decide),if_neg (show ¬((68:UInt8)=67) by decide)];exact bad _ hv.1
      | false=>subst d2;simp only[if_true,and_self,if_neg ff];exact next g true v hv
     ·cases w<;>simp[d2]<;>exact bad _ hv.1
    ·by_cases d3:b=83
     ·subst d3
      cases w with
      | true=>simp;exact bad _ hv.1
      | false=>simp;exact good
     ·by_cases d4:b=67
      ·subst d4
       cases w with
       | true=>simp;exact good
       | false=>simp;exact bad _ hv.1
      ·cases w<;>simp[d1,d3,d4]<;>exact bad _ hv.1
   rw[if_neg (by simp),qbt.1,qa,hc2,qa]
   by_cases c0:(i:Int)=0
   ·rw[if_pos c0,if_pos c0,qnQ,qa]
    by_cases c1:b=72
    ·subst c1
     rw[if_pos rfl,if_pos (by simp),wJ,if_pos rfl,kz,if_pos rfl,qaw,if_pos rfl,qbT,if_pos rfl,hc2,qa]
     obtain⟨a,j,e,h⟩:=gI s (by omega)
     rw[h.p,h.r,qg,qg]
     have b1:∀q:Bool,q=true→∀y:Option (Timage×Bool),y=some (⟨g,w,v⟩,false)→qll y (qdf v a i (ki l n') q):=by
      rintro q rfl y rfl
      rw[qdf,if_pos rfl,vh hv.1];exact .inl ⟨⟨_,rfl,hv.1⟩,_,_,_,rfl,hv.1⟩
     have p1:qbX v g w j s i (kj l n) a true=some (⟨g,w,v⟩,false):=by rw[qbX,if_pos rfl,xa hv.1]
     by_cases c2:e=0
     ·rw[if_neg (show ¬(e≠0) by simpa using c2),if_neg (show ¬(e≠0) by simpa using c2),show(((72:UInt8)::s).length:Int)-1=s.length by simp,qk (by omega) (by omega),qa]
      by_cases c3:j=s.length
      ·rw[if_neg (show ¬j≠(s.length:Int) by simpa using c3),qdf,if_neg ff]
       by_cases c4:a<1
       ·rw[if_pos c4,if_pos c4,p1,vh hv.1];exact .inl ⟨⟨_,rfl,hv.1⟩,_,_,_,rfl,hv.1⟩
       ·rw[if_neg c4,if_neg c4,qbX,if_neg ff,if_neg (by simpa using c3)];exact next a false v hv
      ·rw[if_pos c3]
       refine b1 true rfl _ ?_
       by_cases c4:a<1
       ·rw[if_pos c4,p1]
       ·rw[if_neg c4,qbX,if_neg ff,if_pos c3,xa hv.1]
     ·rw[if_pos c2,if_pos c2];exact b1 true rfl _ p1
    ·rw[if_neg (by simpa using c1),if_neg (by simpa using c1),wJ,if_neg ff,kz,if_neg ff]
     exact rest false rfl
   ·rw[if_neg c0,if_neg c0,wJ,if_neg ff,kz,if_neg ff]
    have:(if([b]:List UInt8)=[72] then qaw s v g w i (kj l n) [b] false else qaw s v g w i (kj l n) [b] false)=qaw s v g w i (kj l n) [b] false:=by split<;>rfl
    rw[this]
    exact rest false rfl
theorem qks:V20 (List.replicate 20 []):=⟨by simp,fun x hx=>by rw[(List.mem_replicate.1 hx).2];simp⟩
theorem qjU(l:SS)(hl:l.length≤256)(hx:∀x∈l,x.length≤1000):qll (M21 l) (M23 l):=by
 rw[M21,M23,qh (by simp),qa]
 exact qiU l hl hx l.length 0 (by omega) big big (z7 (by omega)) (z7 (by omega)) 0 true _ qks
end Go.Proofs.YtloiiohoelhldaaGreatDoor
end
section
namespace Go.Proofs.YtloiiohoelhldaaGreatDoor
open Go.S
def qM(v:SS):List (List TVersion):=v.map fun x=>[⟨0,x⟩]
def wL(logs:List Int)(h g:Int)(I:List (List TVersion)):TStore:=⟨logs,h,g,false,0,I,[],[]⟩
def qfU(logs:List Int)(h g:Int)(v:SS):TStore81:=⟨logs,h,g,false,0,v,[]⟩
section
variable{T:List TStore}{U:List TStore81}{D:List TDisk}{G:List TLog}{logs:List Int}{m:Timage}
theorem qZ{α:Type}(l:List α)(x:α):idx (l++[x]) (l.length:Int)=some x:=qnr l x
theorem qjQ(hlg:logs.length=2)(hm:m.values_.length=20)(h g:Int):∀(r i:Nat),i+r=20→∀n,r<n→qgz m (T.length:Int) D G n (i:Int) (T++[wL logs h g (qM (m.values_.take i)++List.replicate r [])])=some (D,T++[wL logs h g (qM m.values_)],G,(T.length:Int),0):=by
 intro r
 induction r with
 | zero =>
  intro i hi n hn
  obtain⟨n,rfl⟩:=dec n hn
  rw[qgz,qjn,if_neg (by omega),qmY,List.take_of_length_le (by omega),List.replicate_zero,List.append_nil]
 | succ r ih =>
  intro i hi n hn
  obtain⟨n,rfl⟩:=dec n (by omega)
  have h1:i<m.values_.length:=by omega
  have hli:(qM (m.values_.take i)).length=i:=by simp[qM];omega
  have hx:idx (qM (m.values_.take i)++List.replicate (r+1) []) (i:Int)=some []:=by
   rw[jw,List.getElem?_append_right (by omega),hli,Nat.sub_self];simp
  have hxA:zd 20 (qM (m.values_.take i)++List.replicate (r+1) []) (i:Int)=some []:=by
   rw[zd,if_pos (by omega)];exact hx
  have e:(qM (m.values_.take i)++List.replicate (r+1) []).set i [⟨0,m.values_[i]⟩]=qM (m.values_.take (i+1))++List.replicate r []:=by
   rw[List.set_append_right _ _ (by omega),hli,Nat.sub_self,List.replicate_succ,List.set_cons_zero,List.take_succ_eq_append_getElem h1,qM,qM,List.map_append,List.append_assoc]
   rfl
  rw[qgz,qjn,if_pos (by omega),qhg h1 hm,qa,qZ,qa]
  simp only[wL]
  rw[hxA,qa,qh hlg,qa,qdv hx,qa,qD i (by omega),qa,qdv (qZ _ _),qa,jq,Int.toNat_natCast,e]
  exact ih (i+1) (by omega) n (by omega)
theorem ql1(x:Int):∀n i (T:List TStore),qjm m x D G n i T=qgz m x D G n i T:=fun n=>by
 induction n with
 | zero=>intros;rfl
 | succ n ih=>intro i T;rw[qjm,qgz,show qjm m x D G n=qgz m x D G n from funext fun i=>funext fun T=>ih i T];rfl
def pick(m0 m1:Timage):Bool:=decide (m1.whole_=true∧(m0.gen_<m1.gen_∨m0.whole_=false))
def xe(m0 m1:Timage):Timage:=if pick m0 m1=true then m1 else m0
theorem qkK{m0 m1:Timage}(hlg:logs.length=2)(h0:m0.values_.length=20)(h1:m1.values_.length=20):qf7 logs m1 T D G m0 (pick m0 m1) =
  if(xe m0 m1).whole_=true then some (D,T++[wL logs (if pick m0 m1=true then 1 else 0) (xe m0 m1).gen_ (qM (xe m0 m1).values_)],G,(T.length:Int),0) else some (D,T,G,-1,4):=by
 unfold xe
 rw[qf7]
 cases pick m0 m1 with
 | true =>
  simp only[if_true,qh hlg,qa,qal,qe]
  have:=qjQ (T:=T) (D:=D) (G:=G) hlg h1 1 m1.gen_ 20 0 (by omega) big (by rw[qv];omega)
  simp only[ql1]
  split
  ·simpa [wL,qM]using this
  ·rfl
 | false =>
  simp only[if_neg ff,qh hlg,qa,qal,qe]
  have:=qjQ (T:=T) (D:=D) (G:=G) hlg h0 0 m0.gen_ 20 0 (by omega) big (by rw[qv];omega)
  split
  ·simpa [wL,qM]using this
  ·rfl
end
structure Half(N:Nat)(G:List TLog)(logs:List Int):Prop where
 l:∃a0 a1 g0 g1,logs=[a0,a1]∧a0≠a1∧idx G a0=some g0∧idx G a1=some g1∧Lg N g0∧Lg N g1∧g0.fell_=false∧g1.fell_=false
section
variable{N:Nat}{d:TDisk}{q:Nat}
theorem qiy:∃n,big=n+1+1+1:=⟨big-3,by rw[qv]⟩
theorem qej(h:Dk N d q)(hq:q<1900000000000)(T:List TStore)(U:List TStore81)(G:List TLog)(hT:∀x∈T,∀k∈x.logs_,k<(G.length:Int))(hU:∀x∈U,∀k∈x.logs_,k<(G.length:Int)) :
  (∃d' G' U' e,e≠0∧M6 0 [d] T G=some ([d'],T,G',-1,e)∧M7 0 [rd d] U (G.map rl)=some ([rd d'],U',G'.map rl,-1,e)) ∨
  (∃d' g0 g1 hf gen v,M6 0 [d] T G=some ([d'],T++[wL [(G.length:Int),(G.length:Int)+1] hf gen (qM v)],G++[g0]++[g1],(T.length:Int),0) ∧
   M7 0 [rd d] U (G.map rl)=some ([rd d'],U++[qfU [(G.length:Int),(G.length:Int)+1] hf gen v],(G++[g0]++[g1]).map rl,(U.length:Int),0) ∧
   Dk N d' 0∧Lg N g0∧Lg N g1∧g0.fell_=false∧g1.fell_=false∧(hf=0∨hf=1)∧V20 v):=by
 have hs:=h.s
 have ht:=h.t
 have hN:=h.n
 have hdiv:qcT .i64 (N:Int) 2=some ((N/2:Nat):Int):=by
  rw[qcT,if_pos (by decide),show(N:Int).tdiv 2=((N/2:Nat):Int) from(Int.ofNat_tdiv N 2).symm,xk (by omega) (by omega)]
 have hlen:M19 0 [d]=some (N:Int):=by rw[M19,i1,qa,hs]
 have hall:qdZ (List.replicate 2 (-1:Int)) G.length=true:=by simp[qdZ];omega
 have e00:qs 20 (List.replicate 20 ([]:List UInt8))=some (List.replicate 20 []):=qh (by simp)
 obtain⟨f,hf⟩:=qiy
 have z0:i64 (0*((N/2:Nat):Int))=some 0:=by rw[Int.zero_mul];exact qk (by decide) (by decide)
 rw[M6,M7,hlen,qa,hdiv,qa,z0,qa,zf ⟨hT,hall⟩,qa,i1,qa,show(rd d).Seen.length=N from ht,hdiv,qa,qal,qe,hf,qdx,qhJ,if_pos (by decide),z0,qa]
 have hck:∀x∈U++[(⟨List.replicate 2 ((-1):Int),(-1),0,false,0,List.replicate 20 ([]:List UInt8),[]⟩:TStore81)],TStore81.ok122 (G.map rl).length x:=by
  intro x hx k hk
  rw[List.length_map]
  rcases List.mem_append.1 hx with hx|hx
  ·exact hU x hx k hk
  ·rw[List.mem_singleton]at hx;subst hx
   have:=(List.mem_replicate.1 hk).2
   omega
 rw[zf hck,qa]
 rcases qg3 h hq G 0 ((N/2:Nat):Int) with⟨d1,G1,e,he,o1,o2⟩|⟨d1,g0,out0,o1,o2,k1,L0,F0,n0,x0⟩
 ·rw[o1,o2,qu,qu,if_pos he,if_pos he]
  exact .inl ⟨_,_,_,e,he,rfl,rfl⟩
 rw[o1,o2,qu,qu,if_neg (by simp),if_neg (by simp)]
 rcases qjU out0 n0 x0 with⟨⟨m,p1,p2⟩,g,w,v,r1,r2⟩|⟨m0,p1,r1,v0⟩
 ·rw[p1,r1,qe,qH,if_neg ff,if_neg ff,if_neg ff,qh p2,e00,qa,qa,qa,qh r2,qa,qdy,if_neg ff]
  left
  cases w<;>exact⟨_,_,_,4,by decide,rfl,rfl⟩
 have ei:zd 2 (List.replicate 2 (-1:Int)) 0=some (-1):=by decide
 have eu:upd (List.replicate 2 (-1:Int)) 0 (G.length:Int)=some [(G.length:Int),-1]:=by rw[qdv (g:=-1) (by decide)];rfl
 have hall2:qdZ [(G.length:Int),-1] (G++[g0]).length=true:=by simp[qdZ];omega
 have hT2:∀x∈T,TStore.ok108 (G++[g0]).length x:=fun x hx k hkk=>by have:=hT x hx k hkk;simp;omega
 have hi:idx (U++[(⟨List.replicate 2 ((-1):Int),(-1),0,false,0,List.replicate 20 ([]:List UInt8),[]⟩:TStore81)]) (U.length:Int)=some ⟨List.replicate 2 ((-1):Int),(-1),0,false,0,List.replicate 20 [],[]⟩:=qZ _ _
 have first:∀(go:Int→List TDisk51→List TStore81→List TLog122→Option (List TDisk51×List TStore81×List TLog122×Int×Int)),
   (if m0.whole_=true then(if true=true then qb (qs 20 (List.replicate 20 ([]:(List UInt8)))) fun _=>qb (qs 20 m0.values_) fun _=>qdy (U++[(⟨List.replicate 2 ((-1):Int),(-1),0,false,0,List.replicate 20 ([]:List UInt8),[]⟩:TStore81)]) U.length 0 G.length go [rd d1] ((G++[g0]).map rl) m0.gen_ true m0.values_ true else none)
    else(if true=true then qb (qs 20 (List.replicate 20 ([]:(List UInt8)))) fun _=>qb (qs 20 m0.values_) fun _=>qdy (U++[(⟨List.replicate 2 ((-1):Int),(-1),0,false,0,List.replicate 20 ([]:List UInt8),[]⟩:TStore81)]) U.length 0 G.length go [rd d1] ((G++[g0]).map rl) m0.gen_ false m0.values_ true else none)) =
   go 1 [rd d1] (U++[if m0.whole_=true then qfU [(G.length:Int),-1] 0 m0.gen_ m0.values_ else qfU [(G.length:Int),-1] (-1) 0 (List.replicate 20 [])]) ((G++[g0]).map rl):=by
  intro go
  have hl2:qs 2 [(G.length:Int),-1]=some [(G.length:Int),-1]:=qh rfl
  cases hw:m0.whole_ with
  | true =>
   rw[if_pos rfl,if_pos rfl,if_pos rfl,e00,qa,qh v0.1,qa,qdy,if_pos rfl,hi,qa,ei,qa,eu,qa,if_pos rfl,hl2,qa,if_pos (by decide),qgy,if_pos rfl,qh v0.1,qa,hl2,qa,e00,qa,qa,qk (by decide) (by decide),qa,qdv hi,qa,jq]
   rfl
  | false =>
   rw[if_neg ff,if_pos rfl,if_neg ff,e00,qa,qh v0.1,qa,qdy,if_pos rfl,hi,qa,ei,qa,eu,qa,if_neg ff,qgy,if_neg ff,qk (by decide) (by decide),qa,qdv hi,qa,jq]
   rfl
 rw[p1,r1,qe,qH,if_pos rfl,e00,qa,qh v0.1,qa,ei,qa,eu,qa,Int.one_mul,qk (by omega) (by omega),qa,zf ⟨hT2,hall2⟩,qa]
 have first':=first (qdx ((N/2:Nat):Int) 0 (U.length:Int) (f+2))
 simp only[if_true,e00,qh v0.1,qa]at first' ⊢
 rw[first',show f+2=(f+1)+1 from rfl,qdx,qhJ,if_pos (by decide),Int.one_mul,qk (by omega) (by omega),qa]
 obtain⟨r0,hr0,hrl⟩:∃r0:TStore81,r0=(if m0.whole_=true then qfU [(G.length:Int),-1] 0 m0.gen_ m0.values_ else qfU [(G.length:Int),-1] (-1) 0 (List.replicate 20 []))∧r0.logs_=[(G.length:Int),-1]:=⟨_,rfl,by split<;>rfl⟩
 rw[←hr0]
 have hck2:∀x∈U++[r0],TStore81.ok122 ((G++[g0]).map rl).length x:=by
  intro x hx k hk
  rw[List.length_map,List.length_append,List.length_singleton]
  rcases List.mem_append.1 hx with hx|hx
  ·have:=hU x hx k hk;omega
  ·rw[List.mem_singleton]at hx;subst hx
   rw[hrl]at hk
   rcases List.mem_cons.1 hk with rfl|hk
   ·omega
   ·rw[List.mem_singleton]at hk;omega
 rw[zf hck2,qa]
 have hli:idx (U++[r0]) (U.length:Int)=some r0:=qZ _ _
 rcases qg3 (k1.more (q':=0) (by have:=k1.ll;omega)) (by omega) (G++[g0]) ((N/2:Nat):Int) ((N/2:Nat):Int) with⟨d2,G2,e,he,o3,o4⟩|⟨d2,g1,out1,o3,o4,k2,L1,F1,n1,x1⟩
 ·rw[o3,o4,qu,qu,if_pos he,if_pos he]
  exact .inl ⟨_,_,_,e,he,rfl,rfl⟩
 rw[o3,o4,qu,qu,if_neg (by simp),if_neg (by simp)]
 rcases qjU out1 n1 x1 with⟨⟨m,p3,p4⟩,g,w,v,r3,r4⟩|⟨m1,p3,r3,v1⟩
 ·rw[p3,r3,qe,qH,if_neg ff,if_neg ff,if_neg ff,qh p4,e00,qa,qa,qh r4,qa,qdy,if_neg ff]
  left
  cases w<;>exact⟨_,_,_,4,by decide,rfl,rfl⟩
 have ei2:zd 2 [(G.length:Int),-1] 1=some (-1):=by simp[zd,idx]
 have eu2:upd [(G.length:Int),-1] 1 ((G++[g0]).length:Int)=some [(G.length:Int),(G.length:Int)+1]:=by rw[qdv (g:=-1) (by simp[idx])];simp
 have hl2:qs 2 [(G.length:Int),(G.length:Int)+1]=some [(G.length:Int),(G.length:Int)+1]:=qh rfl
 have progK:(if m1.whole_=true then if m0.gen_<m1.gen_ then qf7 [(G.length:Int),(G.length:Int)+1] m1 T [d2] (G++[g0]++[g1]) m0 true else if m0.whole_=true then qf7 [(G.length:Int),(G.length:Int)+1] m1 T [d2] (G++[g0]++[g1]) m0 false else qf7 [(G.length:Int),(G.length:Int)+1] m1 T [d2] (G++[g0]++[g1]) m0 true
   else qf7 [(G.length:Int),(G.length:Int)+1] m1 T [d2] (G++[g0]++[g1]) m0 false)=qf7 [(G.length:Int),(G.length:Int)+1] m1 T [d2] (G++[g0]++[g1]) m0 (pick m0 m1):=by
  unfold pick
  by_cases c1:m1.whole_=true
  ·by_cases c2:m0.gen_<m1.gen_
   ·simp[c1,c2]
   ·cases c3:m0.whole_<;>simp[c1,c2]
  ·simp[c1]
 have second:∀w:Bool,w=m1.whole_→qdy (U++[r0]) U.length 1 ((G++[g0]).length:Int) (qdx ((N/2:Nat):Int) 0 (U.length:Int) (f+1)) [rd d2] ((G++[g0]++[g1]).map rl) m1.gen_ w m1.values_ true =
   if(xe m0 m1).whole_=true then some ([rd d2],U++[qfU [(G.length:Int),(G.length:Int)+1] (if pick m0 m1=true then 1 else 0) (xe m0 m1).gen_ (xe m0 m1).values_],(G++[g0]++[g1]).map rl,(U.length:Int),0)
   else some ([rd d2],U++[qfU [(G.length:Int),(G.length:Int)+1] (-1) 0 (List.replicate 20 [])],(G++[g0]++[g1]).map rl,-1,4):=by
  rintro w hw
  have fin:∀r:TStore81,r.logs_=[(G.length:Int),(G.length:Int)+1]→qdx ((N/2:Nat):Int) 0 (U.length:Int) (f+1) 2 [rd d2] (U++[r]) ((G++[g0]++[g1]).map rl)=if r.half_<0 then some ([rd d2],U++[r],(G++[g0]++[g1]).map rl,-1,4) else some ([rd d2],U++[r],(G++[g0]++[g1]).map rl,(U.length:Int),0):=by
   intro r hr
   rw[qdx,qhJ,if_neg (by decide),qmX,qZ,qa,hr,hl2,qa]
  have k3f:qgy m1.values_ [(G.length:Int),(G.length:Int)+1] r0 1 (U++[r0]) U.length m1.gen_ (qdx ((N/2:Nat):Int) 0 (U.length:Int) (f+1)) [rd d2] ((G++[g0]++[g1]).map rl) false=if r0.half_<0 then some ([rd d2],U++[⟨[(G.length:Int),(G.length:Int)+1],r0.half_,r0.gen_,r0.down_,r0.now_,r0.first_,r0.deals_⟩],(G++[g0]++[g1]).map rl,-1,4) else some ([rd d2],U++[⟨[(G.length:Int),(G.length:Int)+1],r0.half_,r0.gen_,r0.down_,r0.now_,r0.first_,r0.deals_⟩],(G++[g0]++[g1]).map rl,(U.length:Int),0):=by
   rw[qgy,if_neg ff,qk (by decide) (by decide),qa,qdv hli,qa,jq,show(1:Int)+1=2 from rfl,fin _ rfl]
  have hf20:r0.first_.length=20:=by rw[hr0];split<;>simp[qfU,v0.1]
  have k3t:qgy m1.values_ [(G.length:Int),(G.length:Int)+1] r0 1 (U++[r0]) U.length m1.gen_ (qdx ((N/2:Nat):Int) 0 (U.length:Int) (f+1)) [rd d2] ((G++[g0]++[g1]).map rl) true=some ([rd d2],U++[⟨[(G.length:Int),(G.length:Int)+1],1,m1.gen_,r0.down_,r0.now_,m1.values_,r0.deals_⟩],(G++[g0]++[g1]).map rl,(U.length:Int),0):=by
   rw[qgy,if_pos rfl,qh v1.1,qa,hl2,qa,qh hf20,qa,qa,qk (by decide) (by decide),qa,qdv hli,qa,jq,show(1:Int)+1=2 from rfl,fin _ rfl,if_neg (show ¬(1:Int)<0 by decide)]
  rw[qdy,if_pos rfl,hli,qa,hrl,ei2,qa,eu2,qa,hl2,qa,k3t,k3f]
  subst hw
  rw[hr0]
  unfold xe pick
  cases c1:m1.whole_<;>cases c3:m0.whole_<;>by_cases c2:m0.gen_<m1.gen_<;>simp[qfU,c1,c2,c3]
 rw[p3,r3,qe,qH,if_pos rfl,qh v1.1,qa,ei2,qa,eu2,qa,progK,qkK rfl v0.1 v1.1]
 simp only[if_true,e00,qa]
 obtain⟨z,hz⟩:∃z,z=(if(xe m0 m1).whole_=true then some ([rd d2],U++[qfU [(G.length:Int),(G.length:Int)+1] (if pick m0 m1=true then 1 else 0) (xe m0 m1).gen_ (xe m0 m1).values_],(G++[g0]++[g1]).map rl,(U.length:Int),(0:Int))
   else some ([rd d2],U++[qfU [(G.length:Int),(G.length:Int)+1] (-1) 0 (List.replicate 20 [])],(G++[g0]++[g1]).map rl,-1,4)):=⟨_,rfl⟩
 have sec:(if m1.whole_=true then qdy (U++[r0]) U.length 1 ((G++[g0]).length:Int) (qdx ((N/2:Nat):Int) 0 (U.length:Int) (f+1)) [rd d2] ((G++[g0]++[g1]).map rl) m1.gen_ true m1.values_ true
   else qdy (U++[r0]) U.length 1 ((G++[g0]).length:Int) (qdx ((N/2:Nat):Int) 0 (U.length:Int) (f+1)) [rd d2] ((G++[g0]++[g1]).map rl) m1.gen_ false m1.values_ true)=z:=by
  rw[hz]
  split
  ·rename_i c;exact second true c.symm
  ·rename_i c;exact second false (by simpa using c)
 rw[sec,hz]
 by_cases c:(xe m0 m1).whole_=true
 ·rw[if_pos c,if_pos c]
  refine .inr ⟨d2,g0,g1,if pick m0 m1=true then 1 else 0,(xe m0 m1).gen_,(xe m0 m1).values_,rfl,rfl,k2,L0,L1,F0,F1,?_,?_⟩
  ·cases pick m0 m1<;>simp
  ·unfold xe
   split
   ·exact v1
   ·exact v0
 ·rw[if_neg c,if_neg c]
  exact .inl ⟨_,_,_,4,by decide,rfl,rfl⟩
end
end Go.Proofs.YtloiiohoelhldaaGreatDoor
end
section
namespace Go.Proofs.YtloiiohoelhldaaGreatDoor
open Go.S
section
variable{α:Type}{l:List α}{a b:Int}{x y:α}
theorem qx(h:idx l a=some x):upd l a y=some (l.set a.toNat y):=qdv h
theorem qG(h:idx l a=some x):idx (l.set a.toNat y) a=some y:=qmO h
theorem kw(h:idx l b=some x)(ha:0≤a)(hne:a≠b):idx (l.set a.toNat y) b=some x:=by
  obtain⟨h0,h1,h2⟩:=qf h
  unfold idx
  rw[if_pos h0,List.getElem?_set_ne (by omega),h2]
theorem vu{z:α}:(l.set a.toNat x).set a.toNat z=l.set a.toNat z:=List.set_set ..
theorem qey(h0:0≤a)(h1:a<l.length):∃x,idx l a=some x:=by
  obtain⟨i,rfl⟩:=Int.eq_ofNat_of_zero_le h0
  exact⟨_,qp (by omega)⟩
theorem qbi(h:idx l a=some x):x∈l:=List.mem_of_getElem? (qf h).2.2
end
theorem kh{α:Type}{l:List α}{i:Nat}(h:i<l.length):l.drop i=l[i]::l.drop (i+1):=List.drop_eq_getElem_cons h
def xx(l:List TVersion):Prop:=∀i (h:i+1<l.length),l[i].At<l[i+1].At
def qcC(l:List TVersion):Nat→Int
  | 0=>0
  | i+1=>match l[i]? with
    | some v=>v.At
    | none=>0
theorem yq{l:List TVersion}{i:Nat}(h:i<l.length):qcC l (i+1)=l[i].At:=by simp[qcC,h]
theorem qmA(a:List Int)(now:Int)(hl:a.length≤12)(ha:∀s∈a,0≤s∧s≤now):∀(r i:Nat),i+r=a.length→∀n,r<n→vL a now n (i:Int)=some 0:=by
  intro r
  induction r with
  | zero =>
    intro i hi n hn
    obtain⟨n,rfl⟩:=Nat.exists_eq_add_one.2 hn
    rw[vL,qb2,if_neg (by omega),qfw]
  | succ r ih =>
    intro i hi n hn
    obtain⟨n,rfl⟩:=Nat.exists_eq_add_one.2 (show 0<n by omega)
    have h1:i<a.length:=by omega
    have h2:=ha a[i] (List.getElem_mem h1)
    rw[vL,qb2,if_pos (by omega),qp h1,qa,if_neg (by omega),if_neg (by omega),qD i (by omega),qa]
    exact ih (i+1) (by omega) n (by omega)
theorem qkr(l:List TVersion)(a:List Int)(now:Int)(hl:l.length≤100)(ha1:a.length≤12)(ha:∀s∈a,0≤s∧s≤now)(hs:xx l)(hv:∀v∈l,1≤v.At∧v.At≤now):∀(r i:Nat),i+r=l.length→∀n,r<n→vK l now a n (qcC l i) (i:Int)=some 0:=by
  intro r
  induction r with
  | zero =>
    intro i hi n hn
    obtain⟨n,rfl⟩:=Nat.exists_eq_add_one.2 hn
    rw[vK,qb1,if_neg (by omega),qfx]
    exact qmA a now ha1 ha a.length 0 (by omega) big (by rw[qv];omega)
  | succ r ih =>
    intro i hi n hn
    obtain⟨n,rfl⟩:=Nat.exists_eq_add_one.2 (show 0<n by omega)
    have h1:i<l.length:=by omega
    have h2:=hv l[i] (List.getElem_mem h1)
    have h3:qcC l i<l[i].At:=by
      cases i with
      | zero=>simp only[qcC];omega
      | succ i=>rw[yq (by omega)];exact hs i h1
    rw[vK,qb1,if_pos (by omega),qp h1,qa,if_neg (by omega),if_neg (by omega),qD i (by omega),qa]
    have:=ih (i+1) (by omega) n (by omega)
    rw[yq h1]at this
    exact this
theorem qi4{l:List TVersion}{a:List Int}{now:Int}(h0:0≤now)(hl:l.length≤100)(ha1:a.length≤12)(ha:∀s∈a,0≤s∧s≤now)(hs:xx l)(hv:∀v∈l,1≤v.At∧v.At≤now):qmC l a now=some 0:=by
  rw[qmC,if_neg (by omega),if_neg (by omega),if_neg (by omega)]
  exact qkr l a now hl ha1 ha hs hv l.length 0 (by omega) big (by rw[qv];omega)
def lst(l:List TVersion)(s:Int):Nat→Int
  | 0=>-1
  | i+1=>match l[i]? with
    | some v=>if v.At≤s then(i:Int) else lst l s i
    | none=>lst l s i
theorem wY{l:List TVersion}{i:Nat}(s:Int)(h:i<l.length):lst l s (i+1)=if l[i].At≤s then(i:Int) else lst l s i:=by simp[lst,h]
theorem qhb(l:List TVersion)(s:Int):∀i,-1≤lst l s i∧lst l s i<i
  | 0=>by simp[lst]
  | i+1=>by
    have:=qhb l s i
    simp only[lst]
    split
    · split<;>omega
    · omega
theorem qnj(l:List TVersion)(s:Int)(hl:l.length≤1000):∀(r i:Nat),i+r=l.length→∀n,r<n→qbL l s n (lst l s i) (i:Int)=qhX l (lst l s l.length):=by
  intro r
  induction r with
  | zero =>
    intro i hi n hn
    obtain⟨n,rfl⟩:=Nat.exists_eq_add_one.2 hn
    rw[qbL,qfh,if_neg (by omega),show i=l.length by omega]
  | succ r ih =>
    intro i hi n hn
    obtain⟨n,rfl⟩:=Nat.exists_eq_add_one.2 (show 0<n by omega)
    have h1:i<l.length:=by omega
    rw[qbL,qfh,if_pos (by omega),qp h1,qa,qD i (by omega),qa,qa]
    have:=ih (i+1) (by omega) n (by omega)
    rw[wY s h1]at this
    by_cases c:l[i].At≤s
    · rw[if_pos c]at this ⊢;exact this
    · rw[if_neg c]at this ⊢;exact this
theorem qcl{l:List TVersion}(hs:xx l):∀(d i:Nat) (h:i+d<l.length),l[i].At≤l[i+d].At
  | 0,i,h=>Int.le_refl _
  | d+1,i,h=>by
    have h1:=qcl hs d i (by omega)
    have h2:=hs (i+d) (by omega)
    simp only[←Nat.add_assoc]
    omega
theorem wc{l:List TVersion}(hs:xx l){i j:Nat}(hij:i≤j)(hj:j<l.length):l[i].At≤l[j].At:=by
  obtain⟨d,rfl⟩:∃d,j=i+d:=⟨j-i,by omega⟩
  exact qcl hs d i hj
theorem ql6{l:List TVersion}(s:Int)(k:Nat)(hk:k≤l.length)(h1:∀i (h:i<l.length),i<k→l[i].At≤s)(h2:∀i (h:i<l.length),k≤i→s<l[i].At):∀i,k≤i→i≤l.length→lst l s i=(k:Int)-1:=by
  intro i hki
  induction i with
  | zero => intro _; have : k = 0 := by omega
            subst this;simp[lst]
  | succ i ih =>
    intro hi
    rw[wY s (by omega)]
    by_cases c:k≤i
    · rw[if_neg (by have:=h2 i (by omega) c;omega)];exact ih c (by omega)
    · have:k=i+1:=by omega
      subst this
      rw[if_pos (h1 i (by omega) (by omega))];omega
theorem qfQ(l:List TVersion)(hs:xx l)(s:Int)(hl:l.length≤100):∀(d i j:Nat),j-i≤d→i≤j→j≤l.length→(∀q (h:q<l.length),q<i→l[q].At≤s)→(∀q (h:q<l.length),j≤q→s<l[q].At)→∀n,d<n →
    vJ l s n (i:Int) (j:Int)=some (lst l s l.length):=by
  intro d
  induction d with
  | zero =>
    intro i j hd hij hj h1 h2 n hn
    obtain⟨n,rfl⟩:=Nat.exists_eq_add_one.2 hn
    have:i=j:=by omega
    subst this
    rw[vJ,qb0,if_neg (by omega),ql6 s i hj h1 h2 l.length hj (Nat.le_refl _),qfv]
    have hk:∀b,qaT (i:Int) b=some ((i:Int)-1):=fun b=>by rw[qaT,qk (by omega) (by omega),qa]
    by_cases c:(i:Int)<l.length
    · rw[if_pos c,qp (by omega),qa,qaS,qaS,hk,hk]
      simp
    · rw[if_neg c,hk]
  | succ d ih =>
    intro i j hd hij hj h1 h2 n hn
    obtain⟨n,rfl⟩:=Nat.exists_eq_add_one.2 (show 0<n by omega)
    by_cases hlt:i<j
    · rw[vJ,qb0,if_pos (by omega),qk (by omega) (by omega),qa]
      have e1:IntKind.wrap .u64 ((i:Int)+(j:Int))=((i+j:Nat):Int):=by rw[qF];omega
      rw[e1,show(1:Int)=((1:Nat):Int) by rfl,qa4 _ _ (by decide),qa]
      have e2:IntKind.wrap .i64 (((i+j)/2 ^ 1:Nat):Int)=(((i+j)/2:Nat):Int):=by rw[xk (by omega) (by omega)]
      simp only[qdp,e2]
      have hm:(i+j)/2<l.length:=by omega
      rw[qp hm,qa]
      by_cases c:l[(i+j)/2].At≤s
      · rw[if_pos c,if_pos (by omega),qD _ (by omega),qa]
        exact ih ((i+j)/2+1) j (by omega) (by omega) hj (fun q hq hlt'=>by have:=wc hs (show q≤(i+j)/2 by omega) hm;omega) h2 n (by omega)
      · rw[if_neg c,if_neg (by omega)]
        exact ih i ((i+j)/2) (by omega) (by omega) (by omega) h1 (fun q hq hle=>by have:=wc hs hle hq;omega) n (by omega)
    · exact(by
        have:i=j:=by omega
        subst this
        have h0:=ih i i (by omega) (by omega) hj h1 h2 (n+1) (by omega)
        exact h0)
theorem qnz(l:List TVersion)(hs:xx l)(s:Int)(hl:l.length≤100):qm2 l s=some (lst l s l.length):=
  qfQ l hs s hl l.length 0 l.length (by omega) (by omega) (Nat.le_refl _) (by omega) (by omega) big (by rw[qv];omega)
def vY(l:List TVersion)(c:Nat→Bool):Nat→Nat→List TVersion
  | 0,_=>[]
  | r+1,i=>match l[i]? with
    | some v=>if c i=true then v::vY l c r (i+1) else vY l c r (i+1)
    | none=>[]
theorem jv{l:List TVersion}(c:Nat→Bool)(r:Nat){i:Nat}(h:i<l.length):vY l c (r+1) i=if c i=true then l[i]::vY l c r (i+1) else vY l c r (i+1):=by simp[vY,h]
theorem qiT(l:List TVersion)(m:List (Int×Int))(hl:l.length≤100):∀(r i:Nat),i+r=l.length→∀n,r<n→∀o:List TVersion,o.length+r≤1000 →
    vT l m n o (i:Int)=some (o++vY l (fun i=>decide (0<ju m (i:Int) 0)) r i,0):=by
  intro r
  induction r with
  | zero =>
    intro i hi n hn o _
    obtain⟨n,rfl⟩:=Nat.exists_eq_add_one.2 hn
    rw[vT,qb7,if_neg (by omega),qfz,vY,List.append_nil]
  | succ r ih =>
    intro i hi n hn o ho
    obtain⟨n,rfl⟩:=Nat.exists_eq_add_one.2 (show 0<n by omega)
    have h1:i<l.length:=by omega
    rw[vT,qb7,if_pos (by omega),qp h1,qa,qD i (by omega),jv _ _ h1]
    by_cases c:0<ju m (i:Int) 0
    · rw[if_pos c,qE (by simp;omega),qa,qa,ih (i+1) (by omega) n (by omega) _ (by simp;omega),if_pos (by simpa using c)]
      simp
    · rw[if_neg c,qa,ih (i+1) (by omega) n (by omega) o (by omega),if_neg (by simpa using c)]
theorem qhD(l:List TVersion)(hs:xx l)(hl:l.length≤100)(a:List Int)(ha:a.length≤13):∀(r i:Nat),i+r=a.length→∀n,r<n→∀m:List (Int×Int),(∀k,0≤ju m k 0∧ju m k 0≤i)→(∀k,0<ju m k 0↔∃s∈a.take i,lst l s l.length=k) →
    ∃m',vS a l n (i:Int) m=qdq l m'∧∀k,0<ju m' k 0↔∃s∈a,lst l s l.length=k:=by
  intro r
  induction r with
  | zero =>
    intro i hi n hn m h1 h2
    obtain⟨n,rfl⟩:=Nat.exists_eq_add_one.2 hn
    refine⟨m,by rw[vS,qb6,if_neg (by omega)],fun k=>?_⟩
    rw[h2 k,List.take_of_length_le (by omega)]
  | succ r ih =>
    intro i hi n hn m h1 h2
    obtain⟨n,rfl⟩:=Nat.exists_eq_add_one.2 (show 0<n by omega)
    have hil:i<a.length:=by omega
    have hb:=h1 (lst l a[i] l.length)
    rw[vS,qb6,if_pos (by omega),qp hil,qa,qnz l hs _ hl,qa,qk (by omega) (by omega),qa,qa,qD i (by omega),qa]
    refine ih (i+1) (by omega) n (by omega) _ (fun k=>?_) (fun k=>?_)
    · rw[yp]
      have:=h1 k
      split<;>omega
    · rw[yp,List.take_succ_eq_append_getElem hil]
      by_cases c:k=lst l a[i] l.length
      · rw[if_pos c]
        refine⟨fun _=>⟨a[i],List.mem_append.2 (.inr (List.mem_singleton.2 rfl)),c.symm⟩,fun _=>by omega⟩
      · rw[if_neg c,h2 k]
        constructor
        · rintro⟨s,hs1,hs2⟩;exact⟨s,List.mem_append.2 (.inl hs1),hs2⟩
        · rintro⟨s,hs1,hs2⟩
          rcases List.mem_append.1 hs1 with h|h
          · exact⟨s,h,hs2⟩
          · rw[List.mem_singleton]at h;subst h;exact absurd hs2.symm c
def wk(l:List TVersion)(b:List Int):Nat→Bool:=fun i=>decide (∃s∈b,lst l s l.length=(i:Int))
theorem qkS{l:List TVersion}{a:List Int}{now:Int}(h0:0≤now)(hl:l.length≤100)(ha1:a.length≤12)(ha:∀s∈a,0≤s∧s≤now)(hs:xx l)(hv:∀v∈l,1≤v.At∧v.At≤now) :
    qmD l a now=some (vY l (wk l (a++[now])) l.length 0,0):=by
  rw[qmD,qi4 h0 hl ha1 ha hs hv]
  simp only[qa]
  rw[if_neg (by decide),qlG,qE (by simp;omega),qa,qa,List.nil_append,qE (by simp;omega),qa]
  obtain⟨m',h1,h2⟩:=qhD l hs hl (a++[now]) (by simp;omega) (a++[now]).length 0 (by omega) big (by rw[qv];simp;omega) [] (by simp[ju]) (by simp[ju])
  rw[show((0:Nat):Int)=0 by rfl]at h1
  rw[h1,qdq]
  have:=qiT l m' hl l.length 0 (by omega) big (by rw[qv];omega) [] (by simp;omega)
  rw[show((0:Nat):Int)=0 by rfl]at this
  rw[this,List.nil_append]
  congr 2
  have:(fun i:Nat=>decide (0<ju m' (i:Int) 0))=wk l (a++[now]):=funext fun i=>decide_eq_decide.2 (h2 i)
  rw[this]
theorem wZ(l:List TVersion)(c:Nat→Bool):∀r i,(vY l c r i).Sublist (l.drop i)
  | 0,i=>by rw[vY];exact List.nil_sublist _
  | r+1,i=>by
    by_cases h:i<l.length
    · rw[jv c r h,List.drop_eq_getElem_cons h]
      have:=wZ l c r (i+1)
      split
      · exact this.cons_cons _
      · exact this.cons _
    · simp only[vY]
      rw[List.getElem?_eq_none (by omega)]
      exact List.nil_sublist _
theorem qcD(l:List TVersion)(c:Nat→Bool)(hl:0<l.length)(hc:c (l.length-1)=true):∀r i,i+r=l.length→i<l.length→(vY l c r i).getLast?=l.getLast?
  | 0,i,h,h2=>by omega
  | r+1,i,h,h2=>by
    rw[jv c r h2]
    by_cases e:i+1=l.length
    · have hi:i=l.length-1:=by omega
      have hci:c i=true:=by rw[hi];exact hc
      have hr:r=0:=by omega
      subst hr
      rw[if_pos hci,List.getLast?_eq_getElem? (l:=l),←hi,List.getElem?_eq_getElem h2]
      rfl
    · have ih:=qcD l c hl hc r (i+1) (by omega) (by omega)
      split
      · rw[List.getLast?_cons,ih]
        rw[List.getLast?_eq_getElem?,List.getElem?_eq_getElem (by omega)]
        rfl
      · exact ih
theorem qcE(l:List TVersion){c c':Nat→Bool}:∀r i,(∀j,i≤j→c j=c' j)→vY l c r i=vY l c' r i
  | 0,i,_=>rfl
  | r+1,i,h=>by
    simp only[vY]
    rw[h i (Nat.le_refl _),qcE l r (i+1) fun j hj=>h j (by omega)]
theorem wj(l:List TVersion)(f:Int→Int):∀r i (b:List Int),(vY l (fun i=>decide (∃s∈b,f s=(i:Int))) r i).length≤b.length
  | 0,i,b=>by simp[vY]
  | r+1,i,b=>by
    by_cases h:i<l.length
    · rw[jv _ r h]
      by_cases c:∃s∈b,f s=(i:Int)
      · rw[if_pos (by simpa using c)]
        have e:vY l (fun i=>decide (∃s∈b,f s=(i:Int))) r (i+1)=vY l (fun i'=>decide (∃s∈b.filter (fun s=>decide (f s≠(i:Int))),f s=(i':Int))) r (i+1):=by
          apply qcE
          intro j hj
          apply decide_eq_decide.2
          constructor
          · rintro⟨s,h1,h2⟩
            exact⟨s,List.mem_filter.2 ⟨h1,by simp;omega⟩,h2⟩
          · rintro⟨s,h1,h2⟩
            exact⟨s,(List.mem_filter.1 h1).1,h2⟩
        have ih:=wj l f r (i+1) (b.filter (fun s=>decide (f s≠(i:Int))))
        have hlt:(b.filter (fun s=>decide (f s≠(i:Int)))).length<b.length:=by
          obtain⟨s,h1,h2⟩:=c
          exact List.length_filter_lt_length_iff_exists.2 ⟨s,h1,by simp[h2]⟩
        rw[e,List.length_cons]
        omega
      · rw[if_neg (by simpa using c)]
        exact wj l f r (i+1) b
    · simp only[vY]
      rw[List.getElem?_eq_none (by omega)]
      simp
end Go.Proofs.YtloiiohoelhldaaGreatDoor
end
section
namespace Go.Proofs.YtloiiohoelhldaaGreatDoor
open Go.S
theorem qfW(l:List Int)(a:Int)(hl:l.length≤1000):∀(r i:Nat),i+r=l.length→∀n,r<n→∃k,qbx l a n (i:Int)=some k∧(0≤k↔a∈l.drop i):=by
 intro r
 induction r with
 | zero =>
  intro i hi n hn
  obtain⟨n,rfl⟩:=Nat.exists_eq_add_one.2 hn
  rw[qbx,qeQ,if_neg (by omega),qjf,List.drop_eq_nil_of_le (by omega)]
  exact⟨-1,rfl,by simp⟩
 | succ r ih =>
  intro i hi n hn
  obtain⟨n,rfl⟩:=Nat.exists_eq_add_one.2 (show 0<n by omega)
  have h1:i<l.length:=by omega
  rw[qbx,qeQ,if_pos (by omega),qp h1,qa,kh h1]
  by_cases c:a=l[i]
  ·rw[if_pos c]
   exact⟨i,rfl,⟨fun _=>by rw[←c];exact List.mem_cons_self,fun _=>by omega⟩⟩
  ·rw[if_neg c,qD i (by omega),qa]
   obtain⟨k,g1,g2⟩:=ih (i+1) (by omega) n (by omega)
   refine⟨k,g1,g2.trans ⟨fun h=>List.mem_cons_of_mem _ h,fun h=>?_⟩⟩
   rcases List.mem_cons.1 h with h|h
   ·exact absurd h c
   ·exact h
theorem qez{l:List Int}(a:Int)(hl:l.length≤1000):M57 l a=some (decide (a∈l)):=by
 obtain⟨k,h1,h2⟩:=qfW l a hl l.length 0 (by omega) big (by rw[qv];omega)
 rw[List.drop_zero]at h2
 rw[M57,M99]
 rw[show((0:Nat):Int)=0 by rfl]at h1
 rw[h1,qa,decide_eq_decide.2 h2]
structure TxOk(now:Int)(t:Ttx):Prop where
 i0:0≤t.id_
 i1:t.id_<12
 f0:0≤t.from_
 f1:t.from_≤now
 r:t.reads_.length≤20∧t.reads_.Nodup∧∀k∈t.reads_,0≤k∧k<20
 w:t.writes_.length≤20∧t.writes_.Nodup∧∀k∈t.writes_,0≤k∧k<20
 t20:t.texts_.length=20
 tl:∀x∈t.texts_,x.length≤20
def Txs(X:List Ttx)(now:Int)(l:List Int):Prop:=∀x∈l,∃t,idx X x=some t∧TxOk now t
structure Vs(now:Int)(l:List TVersion):Prop where
 ne:l≠[]
 s:xx l
 b:∀v∈l,0≤v.At∧v.At≤now∧v.Text.length≤20
 n:l.length≤50
def qor(X:List Ttx)(l:List Int):List Int:=l.map fun x=>(X.getD x.toNat default).id_
structure StOk(S:TStore)(X:List Ttx):Prop where
 lg:S.logs_.length=2
 it:S.items_.length=20
 vs:∀l∈S.items_,Vs S.now_ l
 n0:0≤S.now_
 n1:S.now_≤2513169434000
 ac:Txs X S.now_ S.active_
 a12:S.active_.length≤12
 an:S.active_.Nodup
 ai:∀x∈S.active_,∀y∈S.active_,∀t u,idx X x=some t→idx X y=some u→t.id_=u.id_→x=y
 ov:Txs X S.now_ S.over_
 ol:(S.over_.length:Int)≤S.now_
 ao:∀x∈S.active_,x∉S.over_
section
variable{T:List TStore}{X:List Ttx}{s:Int}{S:TStore}
theorem qhq(id:Int)(ha:Txs X S.now_ S.active_)(hl:S.active_.length≤1000):∀(r i:Nat),i+r=S.active_.length→(∀x∈S.active_.take i,∀t,idx X x=some t→t.id_≠id)→∀n,r<n →
  ∃k,qbM S X id n (i:Int)=some k∧((0≤k∧k∈S.active_∧∃t,idx X k=some t∧t.id_=id)∨(k=-1∧∀x∈S.active_,∀t,idx X x=some t→t.id_≠id)):=by
 intro r
 induction r with
 | zero =>
  intro i hi h0 n hn
  obtain⟨n,rfl⟩:=Nat.exists_eq_add_one.2 hn
  rw[qbM,qfi,if_neg (by omega),qjt,qgi,if_pos (by omega)]
  rw[List.take_of_length_le (by omega)]at h0
  exact⟨-1,rfl,.inr ⟨rfl,h0⟩⟩
 | succ r ih =>
  intro i hi h0 n hn
  obtain⟨n,rfl⟩:=Nat.exists_eq_add_one.2 (show 0<n by omega)
  have h1:i<S.active_.length:=by omega
  obtain⟨t,ht,hk⟩:=ha S.active_[i] (List.getElem_mem h1)
  rw[qbM,qfi,if_pos (by omega),qp h1,qa,ht,qa,qjs]
  by_cases c:t.id_=id
  ·rw[if_pos (by simpa using c),qgi,if_neg (by omega),qp h1,qa]
   exact⟨_,rfl,.inl ⟨(qf ht).1,List.getElem_mem h1,t,ht,c⟩⟩
  ·rw[if_neg (by simpa using c),qD i (by omega),qa]
   refine ih (i+1) (by omega) (fun x hx u hu=>?_) n (by omega)
   rw[List.take_succ_eq_append_getElem h1]at hx
   rcases List.mem_append.1 hx with hx|hx
   ·exact h0 x hx u hu
   ·rw[List.mem_singleton.1 hx,ht,Option.some.injEq]at hu
    rw[←hu];exact c
theorem qk0(hs:idx T s=some S)(h:StOk S X)(id:Int):∃k,M55 s id T X=some k∧((0≤k∧k∈S.active_∧∃t,idx X k=some t∧t.id_=id)∨(k=-1∧∀x∈S.active_,∀t,idx X x=some t→t.id_≠id)):=by
 have:=h.a12
 obtain⟨k,h1,h2⟩:=qhq (X:=X) (S:=S) id h.ac (by omega) S.active_.length 0 (by omega) (by simp) big (by rw[qv];omega)
 refine⟨k,?_,h2⟩
 rw[M55,hs,qa,qh h.lg,qa,qh h.it,qa]
 exact h1
end
end Go.Proofs.YtloiiohoelhldaaGreatDoor
end
section
namespace Go.Proofs.YtloiiohoelhldaaGreatDoor
open Go.S
section
variable{α ρ:Type}{keep:α→Bool}{l0:List α}{z:α}
theorem qiZ{F:Nat→List α→Int→Int→Option ρ}(hl:l0.length≤9223372036854775800)(K:List α→Option ρ)
  (hend:∀n (l:List α) (i:Nat),l.length=l0.length→F (n+1) l (i:Nat) (l.length:Nat)=qb (cut l (i:Nat) l.length) fun _=>qb (clr l (i:Nat) z) fun l59=>qb (cut l59 0 (i:Nat)) fun l60=>K l60)
  (hstep:∀n (l:List α) (i j:Nat) (h:j<l.length),l.length=l0.length→l[j]∈l0→F (n+1) l (i:Nat) (j:Nat)=if keep l[j]=true then qb (idx l (i:Nat)) fun _=>qb (upd l (i:Nat) l[j]) fun l67=>qb (i64 ((i:Nat)+1)) fun x68=>qb (i64 ((j:Nat)+1)) fun x69=>F n l67 x68 x69 else qb (i64 ((j:Nat)+1)) fun x70=>F n l (i:Nat) x70) :
  ∀(r j:Nat),j+r=l0.length→∀(l:List α) (i:Nat) (n:Nat),r<n→i<j→l.length=l0.length→l.take i=(l0.take j).filter keep→l.drop j=l0.drop j→F n l (i:Nat) (j:Nat)=K (l0.filter keep):=by
 intro r
 induction r with
 | zero =>
  intro j hj l i n hn hij hll ht hd
  obtain⟨n,rfl⟩:=Nat.exists_eq_add_one.2 hn
  have e:j=l.length:=by omega
  subst e
  have e1:l0.take l.length=l0:=List.take_of_length_le (by omega)
  rw[e1]at ht
  have e2:(l.take i++List.replicate (l.length-i) z).take i=l.take i:=List.take_left' (by rw[List.length_take];omega)
  rw[hend n l i hll,qi1 _ _ (by omega),qa,qmp _ _ _ (by omega),qa,qi0 _ _ (by rw[List.length_append,List.length_take,List.length_replicate];omega),qa,e2,ht]
 | succ r ih =>
  intro j hj l i n hn hij hll ht hd
  obtain⟨n,rfl⟩:=Nat.exists_eq_add_one.2 (show 0<n by omega)
  have h1:j<l.length:=by omega
  have h2:j<l0.length:=by omega
  have e1:l[j]=l0[j]:=by
   have h3:=congrArg List.head? hd
   rw[zt h1,zt h2]at h3
   exact Option.some.inj h3
  have e2:l.drop (j+1)=l0.drop (j+1):=by
   have h3:=congrArg List.tail hd
   rw[zt h1,zt h2]at h3
   exact h3
  rw[hstep n l i j h1 hll (by rw[e1];exact List.getElem_mem h2),e1]
  by_cases c:keep l0[j]=true
  ·rw[if_pos c,qp (by omega),qa,qx (qp (i:=i) (by omega)),qa,qD i (by omega),qa,qD j (by omega),qa,Int.toNat_natCast]
   refine ih (j+1) (by omega) _ (i+1) n (by omega) (by omega) (by simpa using hll) ?_ ?_
   ·rw[xb (by simp;omega),List.getElem_set_self,List.take_set_of_le (Nat.le_refl _),ht,xb h2,List.filter_append]
    simp[c]
   ·rw[List.drop_set_of_lt (by omega),e2]
  ·rw[if_neg c,qD j (by omega),qa]
   refine ih (j+1) (by omega) l i n (by omega) (by omega) hll ?_ e2
   rw[ht,xb h2,List.filter_append]
   simp[c]
theorem qhA{F1:Nat→Int→Option ρ}{F:Nat→List α→Int→Int→Option ρ}(hl:l0.length≤9223372036854775800)(K:List α→Option ρ)
  (hend:∀n (l:List α) (i:Nat),l.length=l0.length→F (n+1) l (i:Nat) (l.length:Nat)=qb (cut l (i:Nat) l.length) fun _=>qb (clr l (i:Nat) z) fun l59=>qb (cut l59 0 (i:Nat)) fun l60=>K l60)
  (hstep:∀n (l:List α) (i j:Nat) (h:j<l.length),l.length=l0.length→l[j]∈l0→F (n+1) l (i:Nat) (j:Nat)=if keep l[j]=true then qb (idx l (i:Nat)) fun _=>qb (upd l (i:Nat) l[j]) fun l67=>qb (i64 ((i:Nat)+1)) fun x68=>qb (i64 ((j:Nat)+1)) fun x69=>F n l67 x68 x69 else qb (i64 ((j:Nat)+1)) fun x70=>F n l (i:Nat) x70)
  (hend1:∀n,F1 (n+1) (l0.length:Nat)=K l0)
  (hstep1:∀n i (h:i<l0.length),F1 (n+1) (i:Nat)=if keep l0[i]=true then qb (i64 ((i:Nat)+1)) fun x=>F1 n x else qb (i64 ((i:Nat)+1)) fun x=>F big l0 (i:Nat) x):F1 big 0=K (l0.filter keep):=by
 have key:∀(r i:Nat),i+r=l0.length→(∀q (h:q<l0.length),q<i→keep l0[q]=true)→∀n,r<n→F1 n (i:Nat)=K (l0.filter keep):=by
  intro r
  induction r with
  | zero =>
   intro i hi hk n hn
   obtain⟨n,rfl⟩:=Nat.exists_eq_add_one.2 hn
   obtain rfl:i=l0.length:=by omega
   rw[hend1,List.filter_eq_self.2]
   intro x hx
   obtain⟨q,hq,rfl⟩:=List.getElem_of_mem hx
   exact hk q hq hq
  | succ r ih =>
   intro i hi hk n hn
   obtain⟨n,rfl⟩:=Nat.exists_eq_add_one.2 (show 0<n by omega)
   have h1:i<l0.length:=by omega
   rw[hstep1 n i h1]
   have htk:l0.take i=(l0.take i).filter keep:=by
    rw[List.filter_eq_self.2]
    intro x hx
    obtain⟨q,hq,rfl⟩:=List.getElem_of_mem hx
    rw[List.length_take]at hq
    rw[List.getElem_take]
    exact hk q (by omega) (by omega)
   by_cases c:keep l0[i]=true
   ·rw[if_pos c,qD i (by omega),qa]
    refine ih (i+1) (by omega) (fun q hq hqi=>?_) n (by omega)
    by_cases e:q=i
    ·subst e;exact c
    ·exact hk q hq (by omega)
   ·rw[if_neg c,qD i (by omega),qa]
    refine qiZ hl K hend hstep r (i+1) (by omega) l0 i big (by rw[qv];omega) (by omega) rfl ?_ rfl
    rw[xb h1,List.filter_append,←htk]
    simp[c]
 exact key l0.length 0 (by omega) (fun q hq h=>by omega) big (by rw[qv];omega)
theorem wX{F:Nat→List α→Int→Option ρ}{K:List α→Option ρ}(f:α→α)(hl:l0.length≤1000)
  (hend:∀n (g:List α),g.length=l0.length→F (n+1) g (l0.length:Nat)=K g)
  (hstep:∀n (g:List α) (i:Nat) (h:i<l0.length),g.length=l0.length→idx g (i:Nat)=some l0[i]→F (n+1) g (i:Nat)=qb (i64 ((i:Nat)+1)) fun x=>F n (g.set i (f l0[i])) x):F big l0 0=K (l0.map f):=by
 have key:∀(r i:Nat),i+r=l0.length→∀n,r<n→F n ((l0.take i).map f++l0.drop i) (i:Nat)=K (l0.map f):=by
  intro r
  induction r with
  | zero =>
   intro i hi n hn
   obtain⟨n,rfl⟩:=Nat.exists_eq_add_one.2 hn
   obtain rfl:i=l0.length:=by omega
   rw[hend _ _ (by simp)]
   simp
  | succ r ih =>
   intro i hi n hn
   obtain⟨n,rfl⟩:=Nat.exists_eq_add_one.2 (show 0<n by omega)
   have h1:i<l0.length:=by omega
   have hli:((l0.take i).map f).length=i:=by simp;omega
   rw[hstep _ _ i h1 (by simp;omega) (by rw[jw,List.getElem?_append_right (by omega),hli,Nat.sub_self,List.getElem?_drop,Nat.add_zero,List.getElem?_eq_getElem h1]),qD i (by omega),qa]
   have e:((l0.take i).map f++l0.drop i).set i (f l0[i])=(l0.take (i+1)).map f++l0.drop (i+1):=by
    rw[List.set_append_right _ _ (by omega),hli,Nat.sub_self,zt h1,List.set_cons_zero,xb h1,List.map_append,List.append_assoc]
    rfl
   rw[e]
   exact ih (i+1) (by omega) n (by omega)
 have:=key l0.length 0 (by omega) big (by rw[qv];omega)
 simpa using this
end
def incV(v:TVersion):TVersion:=⟨v.At+1,v.Text⟩
def decV(v:TVersion):TVersion:=⟨v.At-1,v.Text⟩
def left(x:List TVersion)(b:List Int)(now:Int):List TVersion:=if 1<x.length then(vY (x.map incV) (wk (x.map incV) (b.map (·+1)++[now+1])) x.length 0).map decV else x
theorem wl{x:List TVersion}(h:xx x):xx (x.map incV):=fun i hi=>by
 have h2:i+1<x.length:=by simpa using hi
 have:=h i h2
 rw[List.getElem_map,List.getElem_map]
 simp only[incV];omega
theorem xc{x:List TVersion}:xx x↔x.Pairwise (fun a b=>a.At<b.At):=by
 constructor
 ·intro h
  rw[List.pairwise_iff_getElem]
  intro i j hi hj hij
  have h1:=wc h (show i+1≤j by omega) hj
  have h2:=h i (by omega)
  omega
 ·intro h i hi
  exact List.pairwise_iff_getElem.1 h i (i+1) (by omega) hi (by omega)
theorem qdO{x:List TVersion}{b:List Int}{now:Int}(hv:Vs now x)(hb:b.length≤12)(hn:0≤now):Vs now (left x b now)∧(left x b now).length≤13∧(left x b now).getLast?.map (·.Text)=x.getLast?.map (·.Text):=by
 unfold left
 by_cases c:1<x.length
 ·rw[if_pos c]
  have hxl:(x.map incV).length=x.length:=by simp
  have hs:=wl hv.s
  have hsub:=wZ (x.map incV) (wk (x.map incV) (b.map (·+1)++[now+1])) x.length 0
  rw[List.drop_zero]at hsub
  have hlastc:wk (x.map incV) (b.map (·+1)++[now+1]) ((x.map incV).length-1)=true:=by
   refine decide_eq_true ⟨now+1,by simp,?_⟩
   have h1:x.length-1<(x.map incV).length:=by omega
   have h2:=hv.b x[x.length-1] (List.getElem_mem (by omega))
   rw[show(x.map incV).length=(x.length-1)+1 by omega,wY _ h1,if_pos (by rw[List.getElem_map];simp only[incV];omega)]
   omega
  have hlast:=qcD (x.map incV) (wk (x.map incV) (b.map (·+1)++[now+1])) (by omega) hlastc x.length 0 (by omega) (by omega)
  have hcnt:=wj (x.map incV) (fun s=>lst (x.map incV) s (x.map incV).length) x.length 0 (b.map (·+1)++[now+1])
  have hcnt2:(vY (x.map incV) (wk (x.map incV) (b.map (·+1)++[now+1])) x.length 0).length≤13:=by
   refine Nat.le_trans hcnt ?_
   simp;omega
  generalize hkk:vY (x.map incV) (wk (x.map incV) (b.map (·+1)++[now+1])) x.length 0=K at hsub hlast hcnt2
  have hgl:(K.map decV).getLast?.map (·.Text)=x.getLast?.map (·.Text):=by
   rw[List.getLast?_map,hlast,List.getLast?_map,Option.map_map,Option.map_map]
   rfl
  refine⟨⟨?_,?_,?_,by simp;omega⟩,by simpa using hcnt2,hgl⟩
  ·intro h0
   rw[h0]at hgl
   cases hx:x.getLast? with
   | none =>
    rw[List.getLast?_eq_none_iff]at hx
    exact hv.ne hx
   | some v=>rw[hx]at hgl;simp at hgl
  ·rw[xc,List.pairwise_map]
   have:=(xc.1 hs).sublist hsub
   exact this.imp fun h=>by simp only[decV];omega
  ·intro v hv'
   obtain⟨u,hu,rfl⟩:=List.mem_map.1 hv'
   obtain⟨w,hw,rfl⟩:=List.mem_map.1 (hsub.subset hu)
   have:=hv.b w hw
   refine⟨?_,?_,this.2.2⟩
   ·show 0≤w.At+1-1;omega
   ·show w.At+1-1≤now;omega
 ·rw[if_neg c]
  exact⟨hv,by omega,rfl⟩
section
variable{T:List TStore}{X:List Ttx}{s:Int}{S:TStore}
theorem qiM{x:List TVersion}{b:List Int}(hv:Vs S.now_ x)(hc:1<x.length)(hb:b.length≤12)(hb2:∀k∈b,0≤k∧k≤S.now_)(hn:0≤S.now_)(hn1:S.now_≤4611686018427387904)(g:List (List TVersion))(i:Int)(go:List Int→Int→List (List TVersion)→Option (List TStore)) :
  qas x b S g i go big x 0=qhU g i go b (left x b S.now_):=by
 have hxn:=hv.n
 rw[left,if_pos hc]
 rw[wX (l0:=x) (F:=fun n g' i'=>qas x b S g i go n g' i') (K:=fun g'=>qhT b S g i go g') incV (by omega)
  (fun n g' hg'=>by rw[qas,qe3,if_neg (by omega)])
  (fun n g' j hj hg' hx=>by
   have hvb:=hv.b x[j] (List.getElem_mem hj)
   rw[qas,qe3,if_pos (by omega),hx,qa,qk (by omega) (by omega),qa,qa,qx hx,qa,Int.toNat_natCast];rfl)]
 rw[qhT]
 rw[wX (l0:=b) (F:=fun n g' i'=>qbG b S (x.map incV) g i go n g' i') (K:=fun g'=>qhS S (x.map incV) g i go g') (·+1) (by omega)
  (fun n g' hg'=>by rw[qbG,qe4,if_neg (by omega)])
  (fun n g' j hj hg' hx=>by
   have hvb:=hb2 b[j] (List.getElem_mem hj)
   rw[qbG,qe4,if_pos (by omega),hx,qa,qk (by omega) (by omega),qa,qa,qx hx,qa,Int.toNat_natCast])]
 have hkeep:=qkS (l:=x.map incV) (a:=b.map (·+1)) (now:=S.now_+1) (by omega) (by simp;omega) (by simp;omega) (fun k hk=>by
   obtain⟨u,hu,rfl⟩:=List.mem_map.1 hk
   have:=hb2 u hu
   omega) (wl hv.s) (fun v hv'=>by
   obtain⟨w,hw,rfl⟩:=List.mem_map.1 hv'
   have:=hv.b w hw
   simp only[incV]
   omega)
 have hsub:=wZ (x.map incV) (wk (x.map incV) (b.map (·+1)++[S.now_+1])) x.length 0
 rw[List.length_map]at hkeep
 rw[qhS,qk (by omega) (by omega),qa,hkeep,qe]
 generalize vY (x.map incV) (wk (x.map incV) (b.map (·+1)++[S.now_+1])) x.length 0=K at hsub
 have hKl:K.length≤100:=by
  have:=hsub.length_le
  simp at this
  omega
 rw[wX (l0:=K) (F:=fun n g' i'=>qbH K (b.map (·+1)) g i go n g' i') (K:=fun g'=>qhR (b.map (·+1)) g i go g') decV (by omega)
  (fun n g' hg'=>by rw[qbH,qe5,if_neg (by omega)])
  (fun n g' j hj hg' hx=>by
   have hm:K[j]∈x.map incV:=by
    have:=hsub.subset (List.getElem_mem hj)
    rwa [List.drop_zero]at this
   obtain⟨w,hw,hwe⟩:=List.mem_map.1 hm
   have hvb:=hv.b w hw
   have hat:K[j].At=w.At+1:=by rw[←hwe];rfl
   rw[qbH,qe5,if_pos (by omega),hx,qa,qk (by omega) (by omega),qa,qa,qx hx,qa,Int.toNat_natCast];rfl)]
 rw[qhR]
 rw[wX (l0:=b.map (·+1)) (F:=fun n g' i'=>qbI (b.map (·+1)) g i go (K.map decV) n g' i') (K:=fun g'=>qhQ g i go (K.map decV) g') (· - 1) (by simp;omega)
  (fun n g' hg'=>by rw[qbI,qe6,if_neg (by omega)])
  (fun n g' j hj hg' hx=>by
   have hj':j<b.length:=by simpa using hj
   have hvb:=hb2 b[j] (List.getElem_mem hj')
   have hat:(b.map (·+1))[j]=b[j]+1:=by rw[List.getElem_map]
   rw[qbI,qe6,if_pos (by omega),hx,qa,qk (by omega) (by omega),qa,qa,qx hx,qa,Int.toNat_natCast])]
 rw[qhQ]
 congr 1
 rw[List.map_map]
 have:((fun x:Int=>x-1)∘fun x=>x+1)=id:=funext fun x=>by simp only[Function.comp_apply,id];omega
 rw[this,List.map_id]
end
end Go.Proofs.YtloiiohoelhldaaGreatDoor
end
section
namespace Go.Proofs.YtloiiohoelhldaaGreatDoor
open Go.S
section
variable{T:List TStore}{X:List Ttx}{s:Int}{S:TStore}
structure qkl(S:TStore)(X:List Ttx)(a:Int):Prop where
 lg:S.logs_.length=2
 it:S.items_.length=20
 vs:∀l∈S.items_,Vs S.now_ l
 n0:0≤S.now_
 n1:S.now_≤2513169434000
 ac:Txs X S.now_ S.active_
 a12:S.active_.length≤12
 ov:Txs X S.now_ S.over_
 ol:S.over_.length≤2513169434900
 a:∃t,idx X a=some t
theorem qfV(h:∀l∈S.items_,Vs S.now_ l)(hit:S.items_.length=20)(hs:idx T s=some S)(hn0:0≤S.now_)(hn1:S.now_≤4611686018427387904){b:List Int}(hb:b.length≤12)(hb2:∀k∈b,0≤k∧k≤S.now_)(ac ov:List Int):∀(r i:Nat),i+r=20→∀n,r<n →
  qbK S T s ac ov n b (i:Int) ((S.items_.take i).map (fun x=>left x b S.now_)++S.items_.drop i)=some (T.set s.toNat ⟨S.logs_,S.half_,S.gen_,S.down_,S.now_,S.items_.map (fun x=>left x b S.now_),ac,ov⟩):=by
 intro r
 induction r with
 | zero =>
  intro i hi n hn
  obtain⟨n,rfl⟩:=Nat.exists_eq_add_one.2 hn
  obtain rfl:i=20:=by omega
  rw[qbK,qe7,if_neg (by omega),qx hs,qa,List.take_of_length_le (by omega),List.drop_eq_nil_of_le (by omega),List.append_nil]
 | succ r ih =>
  intro i hi n hn
  obtain⟨n,rfl⟩:=Nat.exists_eq_add_one.2 (show 0<n by omega)
  have h1:i<S.items_.length:=by omega
  have hv:=h S.items_[i] (List.getElem_mem h1)
  have hli:((S.items_.take i).map (fun x=>left x b S.now_)).length=i:=by simp;omega
  have hx:idx ((S.items_.take i).map (fun x=>left x b S.now_)++S.items_.drop i) (i:Int)=some S.items_[i]:=by
   rw[jw,List.getElem?_append_right (by omega),hli,Nat.sub_self,List.getElem?_drop,Nat.add_zero,List.getElem?_eq_getElem h1]
  have e:((S.items_.take i).map (fun x=>left x b S.now_)++S.items_.drop i).set i (left S.items_[i] b S.now_)=(S.items_.take (i+1)).map (fun x=>left x b S.now_)++S.items_.drop (i+1):=by
   rw[List.set_append_right _ _ (by omega),hli,Nat.sub_self,zt h1,List.set_cons_zero,xb h1,List.map_append,List.append_assoc]
   rfl
  rw[qbK,qe7,if_pos (by omega),qhg h1 hit,qa]
  by_cases c:1<S.items_[i].length
  ·have hvn:=hv.n
   rw[if_pos (by omega),qm3,qE (by simp;omega),qa,qa,List.nil_append,qiM hv c hb hb2 hn0 hn1,qhU]
   have hxA:zd 20 ((S.items_.take i).map (fun x=>left x b S.now_)++S.items_.drop i) (i:Int)=some S.items_[i]:=by
    rw[zd,if_pos (by omega)];exact hx
   rw[hxA,qa,qx hx,qa,qD i (by omega),qa,Int.toNat_natCast,e]
   exact ih (i+1) (by omega) n (by omega)
  ·have e2:left S.items_[i] b S.now_=S.items_[i]:=if_neg c
   rw[if_neg (by omega),qD i (by omega),qa]
   have e3:((S.items_.take i).map (fun x=>left x b S.now_)++S.items_.drop i).set i (left S.items_[i] b S.now_)=(S.items_.take i).map (fun x=>left x b S.now_)++S.items_.drop i:=by
    rw[e2]
    have:=qa6 hx
    rwa [Int.toNat_natCast]at this
   rw[←e3,e]
   exact ih (i+1) (by omega) n (by omega)
def qfL(X:List Ttx)(x:Int):Ttx:=X.getD x.toNat default
theorem xy{x:Int}{t:Ttx}(h:idx X x=some t):qfL X x=t:=by
 obtain⟨h0,h1,h2⟩:=qf h
 unfold qfL
 rw[List.getD_eq_getElem?_getD,h2];rfl
theorem qkI{L b:List Int}{f:Int}(h:Txs X S.now_ S.over_)(hol:S.over_.length≤2513169434900):qgc S X T s L b f=qd4 S T s L b (S.over_.filter fun x=>!(decide ((qfL X x).at_≤f))):=by
 rw[qgc]
 refine qhA (F1:=fun n i=>qbE S X T s L b f n i) (F:=fun n l i j=>qbF X f S T s L b n l i j) (z:=-1) (by omega) (K:=fun l=>qd4 S T s L b l) ?_ ?_ ?_ ?_
 ·intro n l i hl
  simp only[qbF,qe2]
  rw[if_neg (by omega),qff]
 ·intro n l i j hj hl hm
  obtain⟨t,ht,_⟩:=h _ hm
  simp only[qbF,qe2]
  rw[if_pos (by omega),qp hj,qa,ht,qa,qfe,xy ht]
  by_cases c:t.at_≤f
  ·rw[if_pos (by simpa using c),if_neg (by simpa using c)]
  ·rw[if_neg (by simpa using c),if_pos (by simpa using c)]
 ·intro n
  simp only[qbE,qe1]
  rw[if_neg (by omega),qfd,qgb,if_pos rfl]
 ·intro n i hi
  obtain⟨t,ht,_⟩:=h _ (List.getElem_mem hi)
  simp only[qbE,qe1]
  rw[if_pos (by omega),qp hi,qa,ht,qa,qfc,xy ht]
  by_cases c:t.at_≤f
  ·rw[if_pos (by simpa using c),if_neg (by simpa using c),qgb,if_neg (by omega)]
  ·rw[if_neg (by simpa using c),if_pos (by simpa using c)]
end
end Go.Proofs.YtloiiohoelhldaaGreatDoor
end
