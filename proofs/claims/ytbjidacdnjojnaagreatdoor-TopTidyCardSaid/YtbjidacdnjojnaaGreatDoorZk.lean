import Derived.Test.YtbjidacdnjojnaaGreatDoorToM
import Derived.Test.YtbjidacdnjojnaaGreatDoorZa
set_option linter.unusedVariables false
set_option linter.unusedSimpArgs false
section
namespace Go.Proofs.YtbjidacdnjojnaaGreatDoor
open Go.S
abbrev SS:=List (List UInt8)
def I64 (k:Int):Prop:=-9223372036854775808≤k∧k≤9223372036854775807
theorem qbe (i:Nat):2 ^ (7*i)=128 ^ i:=by rw [Nat.pow_mul]
structure Got (s:List UInt8) (n k e:Int):Prop where
  n0:0≤n
  n1:n < 18446744073709551616
  k0:0≤k
  k1:k≤s.length
theorem qiE (b:UInt8) (i:Nat) (h9:i≤9) (hb:b.toNat % 128*128 ^ i < 18446744073709551616):qda .u64 (IntKind.wrap .u64 (Go.bits .and .u8 ((b.toNat:Nat):Int) 127)) (7*(i:Int))=some ((b.toNat % 128*128 ^ i:Nat):Int):=by
  have hbl:b.toNat < 256:=b.toNat_lt
  have hand:IntKind.wrap .u64 (Go.bits .and .u8 ((b.toNat:Nat):Int) 127)=((b.toNat % 128:Nat):Int):=by
    rw [show (127:Int)=((127:Nat):Int) by rfl,kb .u8 rfl _ _ (by simpa [IntKind.bits] using hbl) (by decide),qjc,z1 .u64 rfl _ (by rw [p64];omega)]
  rw [hand,show (7*(i:Int))=((7*i:Nat):Int) by push_cast;rfl,wl _ _ (by omega) (by rw [qbe];exact hb),qbe]
theorem or7 (v i y:Nat) (hv:v < 128 ^ i) (h:v+y*128 ^ i < 18446744073709551616):Go.bits .or .u64 ((v:Nat):Int) ((y*128 ^ i:Nat):Int)=((v+y*128 ^ i:Nat):Int):=by
  rw [jb .u64 rfl _ _ (by rw [p64];omega) (by rw [p64];omega),← qbe,qho _ _ _ (by rw [qbe];exact hv)]
theorem qhf {v i b:Nat} (h9:i≤9) (hv:v < 128 ^ i) (hb:i=9→b≤1) (hb2:b < 256):v+b % 128*128 ^ i < 128 ^ (i+1)∧v+b % 128*128 ^ i < 18446744073709551616:=by
  have h1:b % 128*128 ^ i≤127*128 ^ i:=Nat.mul_le_mul_right _ (by omega)
  refine ⟨by rw [Nat.pow_succ];omega,?_⟩
  by_cases h:i=9
  · subst h
    have:=hb rfl
    have h3:b % 128*128 ^ 9≤1*128 ^ 9:=Nat.mul_le_mul_right _ (by omega)
    have h2:(128:Nat) ^ 9=9223372036854775808:=by decide
    omega
  · have h2:=Nat.pow_le_pow_right (show 0 < 128 by decide) (show i+1≤9 by omega)
    have h4:(128:Nat) ^ 9=9223372036854775808:=by decide
    have:v+b % 128*128 ^ i < 128 ^ (i+1):=by rw [Nat.pow_succ];omega
    omega
theorem qeh (s:List UInt8) (hl:s.length≤9223372036854775807):∀ (r i v:Nat),i+r=s.length→i≤9→v < 128 ^ i→∀ n,r < n→∃ a k e,ki s n (v:Nat) (i:Int)=some (a,k,e)∧Got s a k e
  | 0,i,v,hi,h9,hv,n+1,_=>by
    refine ⟨0,0,3,?_,⟨by omega,by omega,by omega,by omega⟩⟩
    simp only [ki,qad,qgd];rw [if_neg (by omega)]
  | r+1,i,v,hi,h9,hv,n+1,hn=>by
    have hil:i < s.length:=by omega
    have hb:s[i]?=some s[i]:=List.getElem?_eq_getElem hil
    generalize s[i]=b at hb
    simp only [ki,qad,xK hb,qa]
    rw [if_pos (show (i:Int) < s.length by omega)]
    have hbl:b.toNat < 256:=b.toNat_lt
    by_cases hbig:i=9∧1 < b.toNat
    · refine ⟨0,0,2,?_,⟨by omega,by omega,by omega,by omega⟩⟩
      rw [if_pos (by omega),if_pos (by omega)]
    · obtain ⟨hs1,hs2⟩:=qhf (v:=v) h9 hv (fun h=>by omega) hbl
      have key:∃ a k e,qae (i:Int) (b.toNat:Nat) (v:Nat) (ki s n)=some (a,k,e)∧Got s a k e:=by
        simp only [qae,qr (show -9223372036854775808≤7*(i:Int) by omega) (by omega),qa,qiE b i h9 (by omega),or7 v i _ hv hs2]
        by_cases h128:b.toNat < 128
        · rw [if_pos (show ((b.toNat:Nat):Int) < 128 by omega),qr (show -9223372036854775808≤(i:Int)+1 by omega) (by omega),qa]
          split
          · split
            · exact ⟨0,0,4,rfl,⟨by omega,by omega,by omega,by omega⟩⟩
            · exact ⟨_,_,_,rfl,⟨by omega,by omega,by omega,by omega⟩⟩
          · exact ⟨_,_,_,rfl,⟨by omega,by omega,by omega,by omega⟩⟩
        · rw [if_neg (by omega),qr (by omega) (by omega),qa]
          obtain ⟨a, k, e, h1, h2⟩ := qeh s hl r (i + 1) _ (by omega) (by have : i ≠ 9 := fun h => hbig ⟨h, by omega⟩
                                                                          omega) hs1 n (by omega)
          exact ⟨a,k,e,by exact_mod_cast h1,h2⟩
      split
      · rw [if_neg (by omega)];exact key
      · exact key
theorem qgK (s:List UInt8) (hl:s.length≤9223372036854775807):∃ a k e,M68 s=some (a,k,e)∧Got s a k e:=by
  obtain ⟨a,k,e,h1,h3⟩:=qeh s hl s.length 0 0 (by omega) (by omega) (by simp) big (by rw [qy];omega)
  exact ⟨a,k,e,by simpa [M68] using h1,h3⟩
theorem qgL (s:List UInt8) (hl:s.length≤9223372036854775807):∃ a k e,M41 s=some (a,k,e)∧I64 a∧0≤k∧k≤s.length:=by
  obtain ⟨a,k,e,h1,h3⟩:=qgK s hl
  have hk0:=h3.k0
  have hk1:=h3.k1
  simp only [M41,h1,ql]
  by_cases he:e=0
  · subst he
    obtain ⟨n,rfl⟩:=Int.eq_ofNat_of_zero_le h3.n0
    have hn:=h3.n1
    have hn':n < 18446744073709551616:=by omega
    rw [if_neg (by simp),show (1:Int)=((1:Nat):Int) by rfl,ko _ _ (by decide),qa,Nat.pow_one]
    split
    · rw [qbB _ (by omega),qcp (by omega) (by omega)]
      exact ⟨_,_,_,rfl,⟨by omega,by omega⟩,hk0,hk1⟩
    · refine ⟨_,_,_,rfl,?_,hk0,hk1⟩
      rw [xv (by omega) (by omega)];exact ⟨by omega,by omega⟩
  · rw [if_pos he]
    exact ⟨0,0,e,rfl,⟨by omega,by omega⟩,by omega,by omega⟩
def enc:Nat→Nat→List UInt8
  | 0,_=>[]
  | f+1,x=>if x < 128 then [UInt8.ofNat x] else UInt8.ofNat (x % 128+128) :: enc f (x / 128)
theorem jS:∀ (f x:Nat),(enc f x).length≤f
  | 0,_=>by simp [enc]
  | f+1,x=>by
    simp only [enc]
    split
    · simp
    · have:=jS f (x / 128);simp;omega
theorem vS:∀ (f j x:Nat),x < 128 ^ (j+1)→(enc f x).length≤j+1
  | 0,_,_,_=>by simp [enc]
  | f+1,0,x,h=>by
    simp only [enc]
    rw [if_pos (by simpa using h)];simp
  | f+1,j+1,x,h=>by
    simp only [enc]
    split
    · simp
    · have:=vS f j (x / 128) (by rw [Nat.pow_succ] at h;omega);simp;omega
theorem wF (f x:Nat):0 < (enc (f+1) x).length:=by
  simp only [enc]
  split <;> simp
theorem xQ (a b:List Int):bytesOf (a++b)=bytesOf a++bytesOf b:=by simp [bytesOf]
theorem vg (x:Nat):bytesOf [(x:Int)]=[UInt8.ofNat x]:=by simp [bytesOf]
theorem qco (x:Nat) (h:x < 256):IntKind.wrap .u8 (x:Int)=(x:Int):=by rw [qgy];omega
theorem qdD:∀ (f x:Nat),x < 128 ^ (f+1)→x < 18446744073709551616→∀ n,f < n→∀ (l:List Int),l.length+f≤1000→qaf n (x:Int) l=some (bytesOf l++enc (f+1) x)
  | f,x,hx,h64,n+1,hn,l,hl=>by
    simp only [qaf,qeN,qgj,enc]
    by_cases h:x < 128
    · rw [if_neg (by omega),if_pos h,qX (by simp;omega),qa,qco _ (by omega),xQ,vg]
    · rw [if_pos (by omega),if_neg h,qgy,show (x:Int) % 256=((x % 256:Nat):Int) by omega,show (128:Int)=((128:Nat):Int) by rfl,jb .u8 rfl _ _ (by simp [IntKind.bits];omega) (by decide),qjJ _ (Nat.mod_lt _ (by decide)),qX (by simp;omega),qa]
      rw [show (7:Int)=((7:Nat):Int) by rfl,ko _ _ (by decide),qa]
      have h7:(2:Nat) ^ 7=128:=by decide
      match f,hx,hn,hl with
      | 0,hx,_,_=>simp at hx;omega
      | f+1,hx,hn,hl =>
        rw [h7,qdD f (x / 128) (by rw [Nat.pow_succ] at hx;omega) (by omega) n (by omega) _ (by simp;omega),xQ,vg]
        simp [show x % 256 % 128=x % 128 by omega]
theorem qbd (x:Nat) (h:x < 18446744073709551616):M47 (x:Int)=some (enc 10 x):=by
  have:=qdD 9 x (by simp;omega) h big (by rw [qy];omega) [] (by simp)
  simpa [M47,bytesOf] using this
theorem qd4 (b:UInt8) (i v:Nat) (h9:i≤9) (hv:v < 128 ^ i) (hb:i=9→b.toNat≤1) (go:Int→Int→Option (Int×Int×Int)):qae (i:Int) (b.toNat:Nat) (v:Nat) go =
    if b.toNat < 128 then (if b.toNat=0∧0 < i then some (0,0,4) else some (((v+b.toNat % 128*128 ^ i:Nat):Int),((i+1:Nat):Int),0)) else go ((v+b.toNat % 128*128 ^ i:Nat):Int) ((i+1:Nat):Int):=by
  obtain ⟨_,hs2⟩:=qhf (v:=v) (b:=b.toNat) h9 hv hb b.toNat_lt
  have hp:=qiE b i h9 (Nat.lt_of_le_of_lt (Nat.le_add_left _ _) hs2)
  simp only [qae,qr (show -9223372036854775808≤7*(i:Int) by omega) (by omega),qa,hp,or7 v i _ hv hs2]
  generalize v+b.toNat % 128*128 ^ i=q
  clear hs2 hp hv
  rw [qr (by omega) (by omega)]
  simp only [qa]
  by_cases h:b.toNat < 128
  · rw [if_pos (by omega),if_pos h]
    by_cases h2:b.toNat=0∧0 < i
    · rw [if_pos (by omega),if_pos (by omega),if_pos h2]
    · rw [if_neg h2]
      split
      · rw [if_neg (by omega)];rfl
      · rfl
  · rw [if_neg (by omega),if_neg h];rfl
theorem kN {x:Nat} (h:x < 256):(UInt8.ofNat x).toNat=x:=by simp;omega
theorem qdE (v y i:Nat):v+y % 128*128 ^ i+y / 128*128 ^ (i+1)=v+y*128 ^ i:=by
  have h2:y / 128*128 ^ (i+1)=(y / 128*128)*128 ^ i:=by rw [Nat.pow_succ,Nat.mul_comm (128 ^ i) 128,Nat.mul_assoc]
  rw [h2,Nat.add_assoc,← Nat.add_mul,Nat.mod_add_div' y 128]
theorem qiT (s:List UInt8) (n:Nat):∀ (f i v y:Nat) (r:List UInt8),s.drop i=enc (f+1) y++r→i+f≤8→v < 128 ^ i→(0 < i→0 < y)→y < 128 ^ (f+1)→f < n →
    ki s n (v:Nat) (i:Int)=some (((v+y*128 ^ i:Nat):Int),((i+(enc (f+1) y).length:Nat):Int),0):=by
  induction n with
  | zero=>intro f i v y r hs hf hv hy hyl hn;exact absurd hn (Nat.not_lt_zero _)
  | succ n ih0 =>
    intro f i v y r hs hf hv hy hyl hn
    have hil:i < s.length:=by
      rcases Nat.lt_or_ge i s.length with h | h
      · exact h
      · rw [List.drop_eq_nil_of_le h] at hs
        have:=wF f y
        have h2:=congrArg List.length hs
        simp at h2;omega
    simp only [ki,qad]
    rw [if_pos (show (i:Int) < s.length by omega)]
    simp only [enc] at hs ⊢
    by_cases h:y < 128
    · rw [if_pos h] at hs ⊢
      have hb:s[i]?=some (UInt8.ofNat y):=by
        have:=congrArg (fun l=>l[0]?) hs
        simpa using this
      have hbn:(UInt8.ofNat y).toNat=y:=kN (by omega)
      have hy2:y % 128=y:=Nat.mod_eq_of_lt h
      rw [xK hb,qa,if_neg (show ¬ (i:Int)=9 by omega),qd4 _ i v (by omega) hv (fun h=>by omega),hbn,if_pos h,if_neg (by omega),hy2]
      rfl
    · rw [if_neg h] at hs ⊢
      have hb:s[i]?=some (UInt8.ofNat (y % 128+128)):=by
        have:=congrArg (fun l=>l[0]?) hs
        simpa using this
      have hbn:(UInt8.ofNat (y % 128+128)).toNat=y % 128+128:=kN (by omega)
      have hy2:(y % 128+128) % 128=y % 128:=by omega
      have hv2:=(qhf (v:=v) (b:=y % 128+128) (by omega) hv (fun h=>by omega) (by omega)).1
      rw [hy2] at hv2
      rw [xK hb,qa,if_neg (show ¬ (i:Int)=9 by omega),qd4 _ i v (by omega) hv (fun h=>by omega),hbn,if_neg (by omega),hy2]
      cases f with
      | zero=>exact absurd (show y < 128 by simpa using hyl) h
      | succ f =>
        have hd:s.drop (i+1)=enc (f+1) (y / 128)++r:=by
          have:=congrArg List.tail hs
          rw [List.tail_drop] at this
          simpa using this
        have hyl2:y / 128 < 128 ^ (f+1):=by
          rw [Nat.pow_succ] at hyl
          exact Nat.div_lt_of_lt_mul (by rwa [Nat.mul_comm] at hyl)
        rw [ih0 f (i+1) (v+y % 128*128 ^ i) (y / 128) r hd (by omega) hv2 (fun _=>by omega) hyl2 (by omega),qdE]
        simp only [List.length_cons]
        rw [show i+1+(enc (f+1) (y / 128)).length=i+((enc (f+1) (y / 128)).length+1) by omega]
theorem qfL:∀ (f x:Nat),x < 128 ^ (f+1)→enc (f+2) x=enc (f+1) x:=by
  intro f
  induction f with
  | zero=>intro x h;simp only [enc];rw [if_pos (by simpa using h),if_pos (by simpa using h)]
  | succ f ih =>
    intro x h
    show (if x < 128 then [UInt8.ofNat x] else UInt8.ofNat (x % 128+128) :: enc (f+2) (x / 128))=if x < 128 then [UInt8.ofNat x] else UInt8.ofNat (x % 128+128) :: enc (f+1) (x / 128)
    rw [ih (x / 128) (by
      rw [Nat.pow_succ] at h
      exact Nat.div_lt_of_lt_mul (by rwa [Nat.mul_comm] at h))]
theorem jN (x:Nat) (r:List UInt8) (hx:x < 9223372036854775808):M68 (enc 10 x++r)=some ((x:Int),((enc 10 x).length:Int),0):=by
  have h9:enc 10 x=enc 9 x:=qfL 8 x (by simpa using hx)
  have:=qiT (enc 10 x++r) big 8 0 0 x r (by rw [h9];rfl) (by omega) (by simp) (by omega) (by simpa using hx) (by rw [qy];omega)
  simp only [Nat.zero_add,Nat.pow_zero,Nat.mul_one] at this
  rw [← h9] at this
  rw [M68]
  exact this
def pI (k:Int):List UInt8:=enc 10 (2*k.toNat)
theorem z8 (k:Int):(pI k).length≤10:=jS _ _
theorem qiF (k:Int):0 < (pI k).length:=wF 9 _
theorem qdH {k:Int} (h:k≤1048575):(pI k).length≤3:=vS 10 2 _ (by simp;omega)
theorem qhl {k:Int} (h:k < 64):(pI k).length≤1:=vS 10 0 _ (by simp;omega)
theorem yD {k:Int} (h0:0≤k) (h1:k < 4611686018427387904):M24 k=some (pI k):=by
  obtain ⟨j,rfl⟩:=Int.eq_ofNat_of_zero_le h0
  have e1:IntKind.wrap .u64 ((j:Nat):Int)=((j:Nat):Int):=by rw [xS];omega
  rw [M24,e1,show (1:Int)=((1:Nat):Int) by rfl,wl _ _ (by decide) (by omega),qa,if_neg (by omega),qbd _ (by omega),qa,pI]
  congr 2
  simp;omega
theorem vE (k:Int) (h:I64 k):∃ l,M24 k=some l∧l.length≤10:=by
  obtain ⟨h0,h1⟩:=h
  simp only [M24]
  by_cases hk:k < 0
  · obtain ⟨j,hj⟩:=Int.eq_ofNat_of_zero_le (show 0≤-(k+1) by omega)
    have hj':j < 9223372036854775808:=by omega
    have e1:IntKind.wrap .u64 k=((18446744073709551615 - j:Nat):Int):=by rw [xS];omega
    have e2:qda .u64 ((18446744073709551615 - j:Nat):Int) 1=some ((18446744073709551614 - 2*j:Nat):Int):=by
      unfold qda
      rw [if_pos (by simp [IntKind.bits]),xS]
      congr 1
      simp
      omega
    rw [e1,e2,qa,if_pos hk,qbB _ (by omega),qbd _ (by omega),qa]
    exact ⟨_,rfl,jS _ _⟩
  · obtain ⟨j,rfl⟩:=Int.eq_ofNat_of_zero_le (show 0≤k by omega)
    have e1:IntKind.wrap .u64 ((j:Nat):Int)=((j:Nat):Int):=by rw [xS];omega
    rw [e1,show (1:Int)=((1:Nat):Int) by rfl,wl _ _ (by decide) (by omega),qa,if_neg hk,qbd _ (by omega),qa]
    exact ⟨_,rfl,jS _ _⟩
theorem zN {k:Int} (h0:0≤k) (h1:k < 4611686018427387904) (r:List UInt8):M41 (pI k++r)=some (k,((pI k).length:Int),0):=by
  obtain ⟨j,rfl⟩:=Int.eq_ofNat_of_zero_le h0
  have e:=jN (2*j) r (by omega)
  have hp:pI (j:Int)=enc 10 (2*j):=by simp [pI]
  rw [M41,hp,e,ql,if_neg (by simp),show (1:Int)=((1:Nat):Int) by rfl,ko _ _ (by decide),qa,kb .u64 rfl _ _ (by rw [p64];omega) (by decide),qk1,if_neg (by omega),Nat.pow_one,xv (by omega) (by omega)]
  congr 2
  omega
theorem qdG {k k':Int} (h0:0≤k) (h1:k < 4611686018427387904) (h0':0≤k') (h1':k' < 4611686018427387904) {r r':List UInt8} (h:pI k++r=pI k'++r'):k=k'∧r=r':=by
  have e1:=zN h0 h1 r
  have e2:=zN h0' h1' r'
  rw [h,e2] at e1
  simp only [Option.some.injEq,Prod.mk.injEq] at e1
  refine ⟨e1.1.symm,?_⟩
  rw [e1.1] at h
  exact List.append_cancel_left h
def pT (s:List UInt8):List UInt8:=enc 10 s.length++s
theorem jo {s:List UInt8} (h:s.length < 16384):(pT s).length≤s.length+2:=by
  have hlen:=vS 10 1 s.length (by simpa using h)
  unfold pT
  rw [List.length_append];omega
theorem qaE {s:List UInt8} (h:s.length≤4096):M48 s=some (pT s,0):=by
  have hw:IntKind.wrap .u64 (s.length:Int)=(s.length:Int):=by rw [xS];omega
  have hlen:=jS 10 s.length
  simp only [M48]
  rw [if_neg (by omega),hw,qbd _ (by omega),qa,qV (by omega),qa];rfl
theorem qhN {s r:List UInt8} (h:s.length≤4096) (hr:r.length≤100000):M71 (pT s++r)=some (s,((pT s).length:Int),0):=by
  have hlen:=jS 10 s.length
  have e:=jN s.length (s++r) (by omega)
  have e0:pT s++r=enc 10 s.length++(s++r):=by rw [pT,List.append_assoc]
  have hL:(enc 10 s.length++(s++r)).length=(enc 10 s.length).length+s.length+r.length:=by simp;omega
  rw [e0,M71,e,ql,if_neg (by simp),if_neg (by omega),qr (by omega) (by omega),qa,xS,if_neg (by omega),xv (by omega) (by omega),qr (by omega) (by omega),qa,qJ (by omega) (by omega) (by omega),qa]
  have e1:((enc 10 s.length++(s++r)).take (((enc 10 s.length).length:Int)+(s.length:Int)).toNat).drop ((enc 10 s.length).length:Int).toNat=s:=by
    rw [show (((enc 10 s.length).length:Int)+(s.length:Int)).toNat=(enc 10 s.length).length+s.length by omega,Int.toNat_natCast,List.take_length_add_append,List.drop_left,List.take_left' rfl]
  rw [e1,pT,List.length_append]
  push_cast
  rfl
end Go.Proofs.YtbjidacdnjojnaaGreatDoor
end
section
namespace Go.Proofs.YtbjidacdnjojnaaGreatDoor
open Go.S
theorem qhd (s:List UInt8) (hs:s.length≤4294967296) (n:Nat):∀ (r i x y:Nat),i+r=s.length→x < 65521→y < 65521→r < n→∃ S:Nat,S < 4294967296∧qac s n (x:Int) (y:Int) (i:Int)=some (S:Int):=by
 induction n with
 | zero=>intro r i x y hi hx hy hn;omega
 | succ n ih =>
  intro r i x y hi hx hy hn
  simp only [qac,qeJ,qgb]
  cases r with
  | zero =>
   rw [if_neg (by omega),show (16:Int)=((16:Nat):Int) by rfl,qff _ _ (by decide) (by omega),qa,jb .u32 rfl _ _ (by rw [p32];omega) (by rw [p32];omega)]
   refine ⟨_,?_,rfl⟩
   exact Nat.or_lt_two_pow (n:=32) (by omega) (by omega)
  | succ r =>
   have hil:i < s.length:=by omega
   have hb:s[i]?=some s[i]:=List.getElem?_eq_getElem hil
   generalize s[i]=b at hb
   have hbl:b.toNat < 256:=b.toNat_lt
   rw [if_pos (by omega),xK hb,qa,qap,qap,show ((x:Int)+((b.toNat:Nat):Int) % 4294967296) % 4294967296=((x+b.toNat:Nat):Int) by omega,show (65521:Int)=((65521:Nat):Int) by rfl,qbh _ _ (by decide),qa,qap]
   rw [show ((y:Int)+(((x+b.toNat) % 65521:Nat):Int)) % 4294967296=((y+(x+b.toNat) % 65521:Nat):Int) by omega,qbh _ _ (by decide),qa,qr (by omega) (by omega),qa]
   exact ih r (i+1) _ _ (by omega) (Nat.mod_lt _ (by decide)) (Nat.mod_lt _ (by decide)) (by omega)
theorem qix (s:List UInt8) (hs:s.length≤4294967296):∃ S:Nat,S < 4294967296∧M92 s=some (S:Int) :=
 qhd s hs big s.length 0 1 0 (by omega) (by omega) (by omega) (by rw [qy];omega)
theorem qgB {s:List UInt8} (hs:s.length≤4096):∃ l,M72 s=some (s++l,0)∧l.length=4:=by
 obtain ⟨S,hS,h1⟩:=qix s (by omega)
 have e24:=wj S 24 (by decide)
 have e16:=wj S 16 (by decide)
 have e8:=wj S 8 (by decide)
 rw [M72,if_neg (by omega),h1,qa]
 rw [show qau .u32 (S:Int) 24=_ from e24,qa,show qau .u32 (S:Int) 16=_ from e16,qa,show qau .u32 (S:Int) 8=_ from e8,qa,qV (by simp [bytesOf];omega),qa]
 exact ⟨_,rfl,by simp [bytesOf]⟩
def pF (s:List UInt8):List UInt8:=((M72 s).getD ([],0)).1
theorem kL {s:List UInt8} (h:s.length≤4096):M72 s=some (pF s,0):=by
 obtain ⟨l,h1,_⟩:=qgB h
 unfold pF;rw [h1];rfl
theorem qfp {s:List UInt8} (h:s.length≤4096):∃ l,pF s=s++l∧l.length=4:=by
 obtain ⟨l,h1,h2⟩:=qgB h
 refine ⟨l,?_,h2⟩
 unfold pF;rw [h1];rfl
theorem vI {s:List UInt8} (h:s.length≤4096):(pF s).length=s.length+4:=by
 obtain ⟨l,h1,h2⟩:=qfp h
 rw [h1,List.length_append,h2]
theorem qiS {s:List UInt8} (h:s.length≤4096):M70 (pF s)=some (s,0):=by
 obtain ⟨l,h1,h2⟩:=qfp h
 have hl:=vI h
 rw [M70,qr (by omega) (by omega),qa,if_neg (by omega),if_neg (by omega),qJ (by omega) (by omega) (by omega),qa]
 have e:((pF s).take (((pF s).length:Int) - 4).toNat).drop (0:Int).toNat=s:=by
  rw [show (((pF s).length:Int) - 4).toNat=s.length by omega,h1];simp
 rw [e,kL h,qg,if_neg (by simp),qa]
theorem qhM (s:List UInt8) (h:s.length≤100000):∃ t e,M70 s=some (t,e)∧(e=0→t.length+4=s.length):=by
 rw [M70,qr (by omega) (by omega),qa]
 by_cases h0:(s.length:Int) - 4 < 0
 ·rw [if_pos h0];exact ⟨_,_,rfl,by simp⟩
 ·rw [if_neg h0]
  by_cases h1:4096 < (s.length:Int) - 4
  ·rw [if_pos h1];exact ⟨_,_,rfl,by simp⟩
  ·rw [if_neg h1,qJ (by omega) (by omega) (by omega),qa,kL (by simp;omega),qg]
   split
   ·exact ⟨_,_,rfl,by simp⟩
   ·rw [qa];exact ⟨_,_,rfl,fun _=>by simp;omega⟩
end Go.Proofs.YtbjidacdnjojnaaGreatDoor
end
section
namespace Go.Proofs.YtbjidacdnjojnaaGreatDoor
open Go.S
section
variable {α:Type} {l:List α} {a b:Int} {x y:α}
theorem qu (h:idx l a=some x):upd l a y=some (l.set a.toNat y):=by
 obtain ⟨h0,h1,_⟩:=qm h
 exact if_pos ⟨h0,h1⟩
theorem qp (h:idx l a=some x):idx (l.set a.toNat y) a=some y:=by
 obtain ⟨h0,h1,_⟩:=qm h
 unfold idx
 rw [if_pos h0,List.getElem?_set_self (by omega)]
theorem kV (h:idx l b=some x) (ha:0≤a) (hne:a≠b):idx (l.set a.toNat y) b=some x:=by
 obtain ⟨h0,h1,h2⟩:=qm h
 unfold idx
 rw [if_pos h0,List.getElem?_set_ne (by omega),h2]
theorem qP (h:idx l a=some x):l.set a.toNat x=l:=by
 obtain ⟨h0,h1,h2⟩:=qm h
 exact kp h2
theorem qD {z:α}:(l.set a.toNat x).set a.toNat z=l.set a.toNat z:=List.set_set ..
theorem qd9 (h0:0≤a) (h1:a < l.length):∃ x,idx l a=some x:=by
 obtain ⟨i,rfl⟩:=Int.eq_ofNat_of_zero_le h0
 exact ⟨_,qM (by omega)⟩
theorem zW (h:idx l a=some x):x∈l:=List.mem_of_getElem? (qm h).2.2
theorem qL:idx (l++[x]) (l.length:Int)=some x:=by rw [zm];simp
end
theorem qS (i:Nat) (h:i < 9223372036854775807):i64 ((i:Int)+1)=some ((i+1:Nat):Int):=by rw [qr (by omega) (by omega)];rfl
theorem qi6 {α:Type} {l:List α} {i:Nat} (h:i < l.length):l.drop i=l[i] :: l.drop (i+1):=List.drop_eq_getElem_cons h
theorem jY:∀ k,Lib.repeatL [(0:UInt8)] k=List.replicate k 0
 | 0=>rfl
 | k+1=>by simp [Lib.repeatL,jY k,List.replicate_succ]
theorem qdA (k:Nat) (h:k≤64):xu [0] (k:Int)=some (List.replicate k 0):=by
 unfold xu
 rw [if_pos ⟨by omega,by omega,by simp;omega⟩,Int.toNat_natCast,jY]
theorem qaS {l s:SS} (h:l.length=s.length):cpy l s=s:=by
 unfold cpy
 rw [Nat.min_eq_left (by omega),List.take_length,List.drop_eq_nil_of_le (by omega),List.append_nil]
def pad (s:List UInt8):List UInt8:=s++List.replicate (64 - s.length) 0
theorem xh {s:List UInt8} (h:s.length≤64):(pad s).length=64:=by
 unfold pad;rw [List.length_append,List.length_replicate];omega
theorem xA {P:List UInt8→Prop} {T:SS} {i:Nat} {x:List UInt8} (hT:∀ y∈T,P y) (hx:P x):∀ y∈T.set i x,P y:=fun y hy=>by
 rcases List.mem_or_eq_of_mem_set hy with h | rfl
 ·exact hT y h
 ·exact hx
theorem qdP:(-1:Int)≤9223372036854775807:=by decide
structure Dk (N:Nat) (d:TDisk):Prop where
 s:d.safe_.length=N
 t:d.seen_.length=N
 n:N≤256
 s64:∀ x∈d.safe_,x.length=64
 t64:∀ x∈d.seen_,x.length=64
 late:∀ w∈d.late_,0≤w.at_∧w.at_ < N∧w.text_.length=64
 l0 : -1≤d.left_
 l1:d.left_≤9223372036854775807
 ll:d.late_.length≤1000000
def kf (l:Int):Int:=if 0 < l then l - 1 else l
theorem qfz {l:Int} (h:l < 0):kf l=l:=if_neg (by omega)
section
variable {N:Nat} {d:TDisk} {D:List TDisk} {p:Int}
theorem qdZ (hp:idx D p=some d) (h:Dk N d):M20 p D=some (N:Int):=by rw [M20,hp,qa,h.s]
theorem qeD (hp:idx D p=some d) (h0:d.left_=0):M73 p D=some (D,13):=by rw [M73,hp,qa,if_pos h0]
theorem qeC (hp:idx D p=some d) (h:Dk N d) (h0:d.left_≠0):M73 p D=some (D.set p.toNat ⟨d.safe_,d.seen_,d.late_,kf d.left_⟩,0):=by
 have:=h.l0
 have:=h.l1
 rw [M73,hp,qa,if_neg h0]
 by_cases c:0 < d.left_
 ·rw [if_pos c,qr (by omega) (by omega),qa,qu hp,qa,kf,if_pos c]
 ·rw [if_neg c,kf,if_neg c,qP hp]
theorem wd (hp:idx D p=some d) (h:Dk N d) (h0:d.left_=0) {a:Int} (ha:0≤a) (ha2:a < N) {x:List UInt8} (hx:x.length≤64):M44 p a x D=some (D,13):=by
 have:=h.s
 rw [M44,if_neg (by omega),hp,qa,if_neg (by omega),if_neg (by omega),qeD hp h0,qg,if_pos (by decide)]
theorem jg (hp:idx D p=some d) (h:Dk N d) (h0:d.left_≠0) {a:Int} (ha:0≤a) (ha2:a < N) {x:List UInt8} (hx:x.length≤64):M44 p a x D=some (D.set p.toNat ⟨d.safe_,d.seen_.set a.toNat (pad x),d.late_++[⟨a,pad x⟩],kf d.left_⟩,0):=by
 have hs:=h.s
 have ht:=h.t
 have hll:=h.ll
 obtain ⟨y,hy⟩:=qd9 (l:=d.seen_) ha (by omega)
 rw [M44,if_neg (by omega),hp,qa,if_neg (by omega),if_neg (by omega),qeC hp h h0,qg,if_neg (by decide),qr (by omega) (by omega),qa]
 rw [show (64 - (x.length:Int))=((64 - x.length:Nat):Int) by omega,qdA _ (by omega),qa,qV (by simp;omega),qa,qp hp,qa]
 simp only
 rw [hy,qa,qu hy,qa,qX (by simp;omega),qa,qu (qp hp),qa,qD]
 rfl
theorem wC (hp:idx D p=some d) (h0:d.left_=0):M46 p D=some (D,13):=by rw [M46,qeD hp h0,qg,if_pos (by decide)]
theorem wB (hp:idx D p=some d) (h:Dk N d) (h0:d.left_≠0):M46 p D=some (D.set p.toNat ⟨d.seen_,d.seen_,[],kf d.left_⟩,0):=by
 rw [M46,qeC hp h h0,qg,if_neg (by decide),qp hp,qa,qu (qp hp),qa,qD,qaS (by rw [h.s,h.t])]
theorem qhi (hp:idx D p=some d) (h:Dk N d) (h0:d.left_≠0) {a:Int} (ha:0≤a) (ha2:a < N) {x:List UInt8} (hx:idx d.seen_ a=some x):M37 p a D=some (x,0):=by
 have:=h.s
 rw [M37,if_neg (by omega),hp,qa,if_neg (by omega),if_neg h0,hx,qa]
theorem Dk.wrote (h:Dk N d) {a:Int} (ha:0≤a) (ha2:a < N) {x:List UInt8} (hx:x.length≤64) (hl:d.late_.length < 1000000):Dk N ⟨d.safe_,d.seen_.set a.toNat (pad x),d.late_++[⟨a,pad x⟩],kf d.left_⟩:=by
 have:=h.l0
 have:=h.l1
 refine ⟨h.s,by simp [h.t],h.n,h.s64,xA (P:=fun x=>x.length=64) h.t64 (xh hx),?_,by simp only [kf];split <;> omega,by simp only [kf];split <;> omega,by simp;omega⟩
 intro w hw
 rcases List.mem_append.1 hw with h1 | h1
 ·exact h.late w h1
 ·rw [List.mem_singleton.1 h1];exact ⟨ha,ha2,xh hx⟩
theorem Dk.flushed (h:Dk N d):Dk N ⟨d.seen_,d.seen_,[],kf d.left_⟩:=by
 have:=h.l0
 have:=h.l1
 exact ⟨h.t,h.t,h.n,h.t64,h.t64,fun w hw=>(by cases hw),by simp only [kf];split <;> omega,by simp only [kf];split <;> omega,by simp⟩
end
def qY (keep:List Bool):Nat→List Twrite→SS→SS
 | _,[],S=>S
 | i,w :: L,S=>qY keep (i+1) L (if keep[i]?=some true then S.set w.at_.toNat w.text_ else S)
theorem zO (keep:List Bool):∀ (L:List Twrite) (i:Nat) (S:SS),(qY keep i L S).length=S.length
 | [],_,_=>rfl
 | w :: L,i,S=>by rw [qY,zO keep L];split <;> simp
theorem qbA (keep:List Bool):∀ (L:List Twrite) (i:Nat) (S:SS),(∀ w∈L,w.text_.length=64)→(∀ x∈S,x.length=64)→∀ x∈qY keep i L S,x.length=64
 | [],_,_,_,h=>h
 | w :: L,i,S,hw,h=>by
  rw [qY]
  refine qbA keep L (i+1) _ (fun v hv=>hw v (List.mem_cons_of_mem _ hv)) ?_
  split
  ·exact xA (P:=fun x=>x.length=64) h (hw w (List.mem_cons_self))
  ·exact h
theorem qex {D:List TDisk} {p:Int} {d:TDisk} {N:Nat} (keep:List Bool) (hl:d.late_.length < 9223372036854775807) (hL:∀ w∈d.late_,0≤w.at_∧w.at_ < N):∀ (r i:Nat),i+r=d.late_.length→∀ n,r < n→∀ S:SS,S.length=N →
  qf7 d keep D p n (i:Int) S=qb (upd D p (⟨qY keep i (d.late_.drop i) S,d.seen_,d.late_,d.left_⟩:TDisk)) fun l=>qje p l:=by
 intro r
 induction r with
 | zero =>
  intro i hi n hn S hS
  obtain ⟨n,rfl⟩:=Nat.exists_eq_add_one.2 hn
  rw [qf7,qf6,if_neg (by omega),List.drop_eq_nil_of_le (by omega)]
  rfl
 | succ r ih =>
  intro i hi n hn S hS
  obtain ⟨n,rfl⟩:=Nat.exists_eq_add_one.2 (show 0 < n by omega)
  have h1:i < d.late_.length:=by omega
  have hw:=hL d.late_[i] (List.getElem_mem h1)
  rw [qf7,qf6,if_pos (by omega),qM h1,qa,qS i (by omega),qi6 h1,qY]
  by_cases c1:i < keep.length
  ·rw [if_pos (by omega),qM c1,qa,List.getElem?_eq_getElem c1]
   obtain ⟨y,hy⟩:=qd9 (l:=S) hw.1 (by rw [hS];exact hw.2)
   by_cases c2:keep[i]=true
   ·rw [if_pos c2,hy,qa,qu hy,qa,qa,ih (i+1) (by omega) n (by omega) _ (by simp [hS])]
    simp [c2]
   ·rw [if_neg c2,qa,ih (i+1) (by omega) n (by omega) _ hS]
    simp [c2]
  ·rw [if_neg (by omega),qa,ih (i+1) (by omega) n (by omega) _ hS]
   have:keep[i]?=none:=List.getElem?_eq_none (by omega)
   simp [this]
theorem qfR {D:List TDisk} {p:Int} {d:TDisk} {N:Nat} (hp:idx D p=some d) (h:Dk N d) (keep:List Bool):M9 p keep D=some (D.set p.toNat ⟨qY keep 0 d.late_ d.safe_,qY keep 0 d.late_ d.safe_,[],-1⟩):=by
 have hll:=h.ll
 have:=qex (D:=D) (p:=p) (N:=N) keep (by omega) (fun w hw=>⟨(h.late w hw).1,(h.late w hw).2.1⟩) d.late_.length 0 (by omega) big (by rw [qy];omega) d.safe_ h.s
 rw [M9,hp,qa]
 rw [show ((0:Nat):Int)=0 from rfl] at this
 rw [this,List.drop_zero,qu hp,qa,qje,qp hp,qa,qu (qp hp),qa,qD]
 simp only
 rw [qaS (by rw [zO,h.s,h.t])]
theorem Dk.crashed {d:TDisk} {N:Nat} (h:Dk N d) (keep:List Bool):Dk N ⟨qY keep 0 d.late_ d.safe_,qY keep 0 d.late_ d.safe_,[],-1⟩:=by
 have h64:=qbA keep d.late_ 0 d.safe_ (fun w hw=>(h.late w hw).2.2) h.s64
 exact ⟨by rw [zO,h.s],by rw [zO,h.s],h.n,h64,h64,fun w hw=>(by cases hw),Int.le_refl _,qdP,by simp⟩
def zsec:List UInt8:=List.replicate 64 0
theorem qhr {D:List TDisk} {N:Nat} (hN:N≤256):∀ (r i:Nat),i+r=N→∀ n,r < n→ye (N:Int) (D.length:Int) n (i:Int) (D++[⟨List.replicate i zsec,[],[],-1⟩])=some (D++[⟨List.replicate N zsec,List.replicate N zsec,[],-1⟩],(D.length:Int),0):=by
 intro r
 have hset:∀ (x y:TDisk),(D++[x]).set (D.length:Int).toNat y=D++[y]:=fun x y=>by simp
 induction r with
 | zero =>
  intro i hi n hn
  obtain rfl:i=N:=by omega
  obtain ⟨n,rfl⟩:=Nat.exists_eq_add_one.2 hn
  rw [ye,qce,if_neg (by omega),qgo,qL,qa]
  simp only
  rw [qX (by simp;omega),qa,qu qL,qa,hset]
  rfl
 | succ r ih =>
  intro i hi n hn
  obtain ⟨n,rfl⟩:=Nat.exists_eq_add_one.2 (show 0 < n by omega)
  rw [ye,qce,if_pos (by omega),qL,qa,show (64:Int)=((64:Nat):Int) by rfl,qdA _ (by omega),qa]
  simp only
  rw [qX (by simp;omega),qa,qS i (by omega),qa,qu qL,qa,hset]
  have:=ih (i+1) (by omega) n (by omega)
  rw [List.replicate_succ'] at this
  exact this
theorem qiK {D:List TDisk} {N:Nat} (h1:1≤N) (hN:N≤256):M17 (N:Int) D=some (D++[⟨List.replicate N zsec,List.replicate N zsec,[],-1⟩],(D.length:Int),0):=by
 rw [M17,if_neg (by omega),if_neg (by omega),qcD,qg]
 exact qhr hN N 0 (by omega) big (by rw [qy];omega)
theorem Dk.new {N:Nat} (hN:N≤256):Dk N ⟨List.replicate N zsec,List.replicate N zsec,[],-1⟩:=by
 have h64:∀ x∈List.replicate N zsec,x.length=64:=fun x hx=>by rw [(List.mem_replicate.1 hx).2];simp [zsec]
 exact ⟨by simp,by simp,hN,h64,h64,fun w hw=>(by cases hw),Int.le_refl _,qdP,by simp⟩
end Go.Proofs.YtbjidacdnjojnaaGreatDoor
end
section
namespace Go.Proofs.YtbjidacdnjojnaaGreatDoor
open Go.S
theorem vA {b:UInt8} (h:b.toNat=0):b=0:=by
 apply UInt8.toNat_inj.1;simpa using h
theorem qjA:∀ (k:Nat) (s:List UInt8),s.length=k→k < 9223372036854775807→∀ n,k < n→∃ t j,wN 0 n s=some t∧s=t++List.replicate j 0∧(∀ b,t.getLast?=some b→b≠0):=by
 intro k
 induction k with
 | zero =>
  intro s hs _ n hn
  obtain ⟨n,rfl⟩:=Nat.exists_eq_add_one.2 hn
  obtain rfl:s=[]:=List.length_eq_zero_iff.1 hs
  exact ⟨[],0,by rw [wN,qbH,if_neg (by simp)];rfl,rfl,by simp⟩
 | succ k ih =>
  intro s hs hk n hn
  obtain ⟨n,rfl⟩:=Nat.exists_eq_add_one.2 (show 0 < n by omega)
  have hne:s≠[]:=by rintro rfl;simp at hs
  obtain ⟨t,b,rfl⟩:∃ t b,s=t++[b]:=⟨s.dropLast,s.getLast hne,(List.dropLast_concat_getLast hne).symm⟩
  have ht:t.length=k:=by simpa using hs
  have hb:(t++[b])[k]?=some b:=by rw [List.getElem?_append_right (by omega),ht];simp
  rw [wN,qbH,if_pos (by rw [hs];omega),hs,show ((k+1:Nat):Int) - 1=(k:Int) by omega,qr (by omega) (by omega),qa,xK hb,qa]
  by_cases c:b.toNat=0
  ·obtain rfl:=vA c
   rw [if_pos (by simp),qa,qJ (by omega) (by omega) (by rw [hs];omega),qa]
   obtain ⟨u,j,h1,h2,h3⟩:=ih t ht (by omega) n (by omega)
   have e:((t++[0]).take ((k:Int)).toNat).drop (0:Int).toNat=t:=by simp [← ht]
   rw [e,h1]
   exact ⟨u,j+1,rfl,by rw [List.replicate_succ',← List.append_assoc,← h2],h3⟩
  ·rw [if_neg (by omega),qeK]
   refine ⟨_,0,rfl,by simp,fun b' hb'=>?_⟩
   rw [List.getLast?_concat,Option.some.injEq] at hb'
   subst hb'
   rintro rfl
   exact c rfl
theorem qjB:∀ (k:Nat) (s:List UInt8),s.length=k→k < 9223372036854775807→∀ n,k < n→∃ t j,wO 0 n s=some t∧s=List.replicate j 0++t∧(∀ b,t.head?=some b→b≠0):=by
 intro k
 induction k with
 | zero =>
  intro s hs _ n hn
  obtain ⟨n,rfl⟩:=Nat.exists_eq_add_one.2 hn
  obtain rfl:s=[]:=List.length_eq_zero_iff.1 hs
  exact ⟨[],0,by rw [wO,qbI,if_neg (by simp)];rfl,rfl,by simp⟩
 | succ k ih =>
  intro s hs hk n hn
  obtain ⟨n,rfl⟩:=Nat.exists_eq_add_one.2 (show 0 < n by omega)
  obtain ⟨b,t,rfl⟩:∃ b t,s=b :: t:=by
   cases s with
   | nil=>simp at hs
   | cons b t=>exact ⟨b,t,rfl⟩
  have ht:t.length=k:=by simpa using hs
  have hb:(b :: t)[0]?=some b:=rfl
  have hi:=xK hb
  rw [show ((0:Nat):Int)=0 from rfl] at hi
  rw [wO,qbI,if_pos (by rw [hs];omega),hi,qa]
  by_cases c:b.toNat=0
  ·obtain rfl:=vA c
   rw [if_pos (by simp),qJ (by omega) (by rw [hs];omega) (by omega),qa]
   obtain ⟨u,j,h1,h2,h3⟩:=ih t ht (by omega) n (by omega)
   have e:(((0:UInt8) :: t).take (((0:UInt8) :: t).length:Int).toNat).drop (1:Int).toNat=t:=by simp
   rw [e,h1]
   exact ⟨u,j+1,rfl,by rw [List.replicate_succ,List.cons_append,← h2],h3⟩
  ·rw [if_neg (by omega),qeL]
   refine ⟨_,0,rfl,by simp,fun b' hb'=>?_⟩
   rw [List.head?_cons,Option.some.injEq] at hb'
   subst hb'
   rintro rfl
   exact c rfl
theorem qdl (s:List UInt8) (hs:s.length=64):∃ u,M65 s [0]=some u∧(u=[]↔s=List.replicate 64 0):=by
 have hne:s≠[]:=by rintro rfl;simp at hs
 obtain ⟨t,j,h1,h2,h3⟩:=qjA 64 s hs (by omega) big (by rw [qy];omega)
 have htl:t.length≤64:=by have:=congrArg List.length h2;simp at this;omega
 obtain ⟨u,i,g1,g2,g3⟩:=qjB t.length t rfl (by omega) big (by rw [qy];omega)
 have h0:qbn [(0:UInt8)] 0=some 0:=by decide
 refine ⟨u,?_,?_⟩
 ·rw [M65,if_neg hne,if_neg (by simp),if_pos (by simp),h0,qa,if_pos (by decide),qa,M86,h1,qa,qa,M85,g1,qa]
 ·constructor
  ·rintro rfl
   rw [h2,g2,List.append_nil,List.replicate_append_replicate] at hs ⊢
   rw [List.length_replicate] at hs
   rw [hs]
  ·intro hz
   have ht:t=[]:=by
    rcases List.eq_nil_or_concat t with h | ⟨t',b,rfl⟩
    ·exact h
    ·exfalso
     refine h3 b (by simp) ?_
     have:b∈s:=by rw [h2];simp
     rw [hz] at this
     exact (List.mem_replicate.1 this).2
   subst ht
   have:=congrArg List.length g2
   simp at this
   exact List.eq_nil_of_length_eq_zero (by omega)
def Ep (e:Int):Prop:=0≤e∧e≤1000000
def hd (m:UInt8) (e q:Int):List UInt8:=[m]++pI e++pI q
def hl (e q:Int):Nat:=1+(pI e).length+(pI q).length
theorem kX (m:UInt8) (e q:Int):(hd m e q).length=hl e q:=by simp [hd,hl];omega
theorem qeb {e q:Int} (he:Ep e) (hq:Ep q):hl e q≤7:=by
 have:=qdH (k:=e) (by have:=he.2;omega)
 have:=qdH (k:=q) (by have:=hq.2;omega)
 unfold hl;omega
theorem Ep.lt {e:Int} (h:Ep e):e < 4611686018427387904:=by have:=h.2;omega
theorem qec {m:UInt8} {e q:Int} (he:Ep e) (hq:Ep q):M69 [m] e q=some (hd m e q):=by
 have h1:=z8 e
 have h2:=z8 q
 rw [M69,yD he.1 he.lt,qa,qV (by simp;omega),qa,yD hq.1 hq.lt,qa,qV (by simp;omega),qa];rfl
theorem qgI (m:UInt8) {e q:Int} (he:I64 e) (hq:I64 q):∃ h,M69 [m] e q=some h∧h.length≤21:=by
 obtain ⟨x,h1,h2⟩:=vE e he
 obtain ⟨y,h3,h4⟩:=vE q hq
 rw [M69,h1,qa,qV (by simp;omega),qa,h3,qa,qV (by simp;omega),qa]
 exact ⟨_,rfl,by simp;omega⟩
def aT (e:Int):List UInt8:=[3]++pF (pI e)
theorem xR (e:Int):(aT e).length≤15:=by
 have:=z8 e
 have:=vI (s:=pI e) (by omega)
 unfold aT;rw [List.length_append];simp;omega
theorem vj {e:Int} (h0:0≤e) (h1:e < 4611686018427387904):M66 e=some (aT e):=by
 have:=z8 e
 have hl:=vI (s:=pI e) (by omega)
 rw [M66,yD h0 h1,qa,kL (by omega),qg,qV (by simp;omega),qa];rfl
def anc (e:Int):List UInt8:=if e=0 then zsec else pad (aT e)
theorem qbx {e:Int} {s:List UInt8} (he:Ep e) (hs:s=pad (aT e)∨(e=0∧s=zsec)):M38 s=some (e,0):=by
 rcases hs with rfl | ⟨rfl,rfl⟩
 ·have hla:=xR e
  have h64:=xh (s:=aT e) (by omega)
  obtain ⟨u,h1,h2⟩:=qdl (pad (aT e)) h64
  have hu:u≠[]:=by
   intro h
   have:=congrArg (fun l=>l[0]?) (h2.1 h)
   simp [pad,aT] at this
  have hd1:(pad (aT e)).drop 1=pI e++((pF (pI e)).drop (pI e).length++List.replicate (64 - (aT e).length) 0):=by
   obtain ⟨l,h3,_⟩:=qfp (s:=pI e) (by have:=z8 e;omega)
   simp [pad,aT,h3]
  rw [M38,h1,qa,if_neg hu,qJ (by omega) (by omega) (by omega),qa,Int.toNat_natCast,List.take_length,show (1:Int).toNat=1 from rfl,hd1,zN he.1 he.lt,ql,vj he.1 he.lt,qa,if_neg (by simp),if_neg (by have:=he.1;omega)]
  rw [qcV,if_neg (by simp),if_neg (by have:=he.2;omega),qr (by omega) (by omega),qa,show (64 - ((aT e).length:Int))=((64 - (aT e).length:Nat):Int) by omega,qdA _ (by omega),qa,qV (by simp;omega),qa,if_neg (by simp [pad])]
 ·obtain ⟨u,h1,h2⟩:=qdl zsec (by simp [zsec])
  rw [M38,h1,qa,if_pos (h2.2 rfl)]
theorem qcM (s:List UInt8) (hs:s.length=64) (q:Int):∃ ep r b,M67 s q=some (ep,r,b)∧I64 ep∧r.length≤64:=by
 rw [M67,qJ (by omega) (by omega) (by omega),qa]
 split
 ·exact ⟨0,[],false,rfl,⟨by omega,by omega⟩,by simp⟩
 ·rw [qJ (by omega) (by omega) (by omega),qa]
  obtain ⟨a,k,e,h1,h2,h3,h4⟩:=qgL ((s.take (s.length:Int).toNat).drop (1:Int).toNat) (by simp;omega)
  have hlen:((s.take (s.length:Int).toNat).drop (1:Int).toNat).length=63:=by simp;omega
  rw [hlen] at h4
  rw [h1,ql]
  split
  ·exact ⟨0,[],false,rfl,⟨by omega,by omega⟩,by simp⟩
  ·rw [qr (by omega) (by omega),qa,qJ (by omega) (by omega) (by omega),qa]
   obtain ⟨a2,k2,e2,g1,g2,g3,g4⟩:=qgL ((s.take (s.length:Int).toNat).drop (1+k).toNat) (by simp;omega)
   have hlen2:((s.take (s.length:Int).toNat).drop (1+k).toNat).length=64 - (1+k).toNat:=by simp;omega
   rw [hlen2] at g4
   rw [g1,ql,qa,qr (by omega) (by omega),qa,qJ (by omega) (by omega) (by omega),qa]
   split
   ·exact ⟨_,_,_,rfl,h2,by simp;omega⟩
   ·exact ⟨_,_,_,rfl,h2,by simp;omega⟩
theorem yS {s:List UInt8} (hs:s.length=64) (h:s.head?≠some 1) (q:Int):M67 s q=some (0,[],false):=by
 rw [M67,qJ (by omega) (by omega) (by omega),qa,if_pos]
 intro h1
 apply h
 cases s with
 | nil=>simp at hs
 | cons b t=>simpa using h1
theorem yR {e q q':Int} (he:Ep e) (hq:Ep q) {r:List UInt8} (hs:(hd 1 e q++r).length=64):M67 (hd 1 e q++r) q'=some (e,r,decide (q=q')):=by
 have h1:=z8 e
 have h2:=z8 q
 have h0:(hd 1 e q++r).take (1:Int).toNat=[1]:=by simp [hd]
 have e1:((hd 1 e q++r).take ((hd 1 e q++r).length:Int).toNat).drop (1:Int).toNat=pI e++(pI q++r):=by rw [Int.toNat_natCast,List.take_length];simp [hd]
 have e2:((hd 1 e q++r).take ((hd 1 e q++r).length:Int).toNat).drop (1+((pI e).length:Int)).toNat=pI q++r:=by
  rw [Int.toNat_natCast,List.take_length,show (1+((pI e).length:Int)).toNat=1+(pI e).length by omega,← List.drop_drop]
  simp [hd]
 have e3:((hd 1 e q++r).take ((hd 1 e q++r).length:Int).toNat).drop (1+((pI e).length:Int)+((pI q).length:Int)).toNat=r:=by
  rw [Int.toNat_natCast,List.take_length,show (1+((pI e).length:Int)+((pI q).length:Int)).toNat=(hd 1 e q).length by rw [kX];unfold hl;omega]
  simp
 have hL:=kX 1 e q
 unfold hl at hL
 rw [List.length_append] at hs
 have hlen:(hd 1 e q++r).length=64:=by rw [List.length_append];exact hs
 rw [M67,qJ (by omega) (by omega) (by omega),qa,h0,show (0:Int).toNat=0 from rfl,List.drop_zero,if_neg (by simp),qJ (by omega) (by omega) (by omega),qa,e1,zN he.1 he.lt,ql,if_neg (by simp),qr (by omega) (by omega),qa,qJ (by omega) (by omega) (by omega),qa,e2,zN hq.1 hq.lt,ql,qa,qr (by omega) (by omega),qa,qJ (by omega) (by omega) (by omega),qa,e3,if_pos rfl]
def kh (e q:Int):Nat→UInt8→List UInt8→SS
 | 0,_,_=>[]
 | f+1,m,B=>if B=[] then [] else (hd m e q++B.take (64 - hl e q)) :: kh e q f 2 (B.drop (64 - hl e q))
theorem qew {e q:Int} (he:Ep e) (hq:Ep q):∀ (f:Nat) (B:List UInt8),B.length≤f→f≤500→∀ n,f < n→∀ (l:SS) (m:UInt8),l.length+f≤1000→km e q n B l [m]=some (l++kh e q f m B):=by
 have h7:=qeb he hq
 intro f
 induction f with
 | zero =>
  intro B hB _ n hn l m hl
  obtain ⟨n,rfl⟩:=Nat.exists_eq_add_one.2 hn
  obtain rfl:B=[]:=List.eq_nil_of_length_eq_zero (by omega)
  rw [km,v7,if_neg (by simp)];simp [qeO,kh]
 | succ f ih =>
  intro B hB hf n hn l m hl'
  obtain ⟨n,rfl⟩:=Nat.exists_eq_add_one.2 (show 0 < n by omega)
  rw [km,v7,kh]
  by_cases h0:B=[]
  ·rw [if_neg (by simp [h0]),if_pos h0,qeO,List.append_nil]
  ·have hBp:0 < B.length:=List.length_pos_iff.2 h0
   have hl64:=kX m e q
   rw [if_pos h0,if_neg h0,qec he hq,qa,hl64,qr (by omega) (by omega),qa,qJ (by omega) (by omega) (by omega),qa]
   have e1:(B.take (min (64 - (hl e q:Int)) (B.length:Int)).toNat).drop (0:Int).toNat=B.take (64 - hl e q):=by
    rcases Nat.le_total (64 - hl e q) B.length with h | h
    ·rw [show (min (64 - (hl e q:Int)) (B.length:Int)).toNat=64 - hl e q by omega];simp
    ·rw [show (min (64 - (hl e q:Int)) (B.length:Int)).toNat=B.length by omega,List.take_of_length_le h];simp
   have e2:(B.take (B.length:Int).toNat).drop (min (64 - (hl e q:Int)) (B.length:Int)).toNat=B.drop (64 - hl e q):=by
    rw [Int.toNat_natCast,List.take_length]
    rcases Nat.le_total (64 - hl e q) B.length with h | h
    ·rw [show (min (64 - (hl e q:Int)) (B.length:Int)).toNat=64 - hl e q by omega]
    ·rw [show (min (64 - (hl e q:Int)) (B.length:Int)).toNat=B.length by omega,List.drop_eq_nil_of_le h,List.drop_eq_nil_of_le (Nat.le_refl _)]
   rw [e1,qV (by rw [hl64];simp;omega),qa,qX (by simp;omega),qa,qJ (by omega) (by omega) (by omega),qa,e2,ih (B.drop (64 - hl e q)) (by simp;omega) (by omega) n (by omega) _ 2 (by simp;omega)]
   simp
def body (t:List UInt8):List UInt8:=pF (pT t)
def xq (e q:Int) (t:List UInt8):SS:=kh e q (body t).length 1 (body t)
theorem jw {t:List UInt8} (h:t.length≤300):(body t).length≤306∧5≤(body t).length:=by
 have h1:=jo (s:=t) (by omega)
 have h2:=vI (s:=pT t) (by omega)
 have h3:0 < (enc 10 t.length).length:=wF 9 t.length
 have h4:(pT t).length=(enc 10 t.length).length+t.length:=by simp [pT]
 unfold body;omega
theorem kG {e q:Int} (he:Ep e) (hq:Ep q) {t:List UInt8} (h:t.length≤300):M43 e q t=some (xq e q t):=by
 have hb:=jw h
 have h1:=jo (s:=t) (by omega)
 have:=qew he hq (body t).length (body t) (Nat.le_refl _) (by omega) big (by rw [qy];omega) [] 1 (by simp;omega)
 rw [M43,qaE (by omega),qg,kL (by omega),qg]
 exact this
theorem wG {e q:Int}:∀ {f:Nat} {m:UInt8} {B:List UInt8} {x:List UInt8},x∈kh e q f m B→∃ m' c,(m'=m∨m'=2)∧x=hd m' e q++c∧c.length≤64 - hl e q
 | 0,_,_,_,h=>by cases h
 | f+1,m,B,x,h=>by
  rw [kh] at h
  split at h
  ·cases h
  ·rcases List.mem_cons.1 h with rfl | h
   ·exact ⟨m,_,.inl rfl,rfl,by rw [List.length_take];omega⟩
   ·obtain ⟨m',c,h1,h2,h3⟩:=wG h
    exact ⟨m',c,.inr (h1.elim id id),h2,h3⟩
theorem qaw {e q:Int} (he:Ep e) (hq:Ep q) {t x:List UInt8} (h:x∈xq e q t):x.length≤64:=by
 obtain ⟨m,c,_,rfl,hc⟩:=wG h
 have:=qeb he hq
 rw [List.length_append,kX];omega
theorem jT {e q:Int} (he:Ep e) (hq:Ep q):∀ (f:Nat) (m:UInt8) (B:List UInt8),(kh e q f m B).length*57≤B.length+56
 | 0,_,_=>by simp [kh]
 | f+1,m,B=>by
  have h7:=qeb he hq
  rw [kh]
  split
  ·simp
  ·have hBp:0 < B.length:=List.length_pos_iff.2 (by assumption)
   have:=jT he hq f 2 (B.drop (64 - hl e q))
   rw [List.length_drop] at this
   rw [List.length_cons]
   omega
theorem xJ {e q:Int} (he:Ep e) (hq:Ep q) {t:List UInt8} (h:t.length≤300):(xq e q t).length≤6∧1≤(xq e q t).length:=by
 have hb:=jw h
 have h1:=jT he hq (body t).length 1 (body t)
 refine ⟨by unfold xq;omega,?_⟩
 unfold xq
 obtain ⟨f,hf⟩:=Nat.exists_eq_add_one.2 (show 0 < (body t).length by omega)
 rw [hf,kh,if_neg (by intro h0;rw [h0] at hf;simp at hf)]
 simp
structure Dead (m:Int) (s:List UInt8):Prop where
 len:s.length=64
 h:∀ q ep r,M67 s q=some (ep,r,true)→ep < m
 p:∀ ep q r,m≤ep→Ep ep→s≠hd 2 ep q++r
theorem Dead.mono {m m':Int} {s:List UInt8} (h:Dead m s) (hm:m≤m'):Dead m' s:=⟨h.len,fun q ep r hh=>Int.lt_of_lt_of_le (h.h q ep r hh) hm,fun ep q r hh=>h.p ep q r (Int.le_trans hm hh)⟩
theorem Dead.zero (m:Int):Dead m zsec:=by
 have hz:zsec.length=64:=by simp [zsec]
 refine ⟨hz,fun q ep r h=>?_,fun ep q r _ _ h=>?_⟩
 ·rw [yS hz (by simp [zsec])] at h;cases h
 ·have:=congrArg (fun l=>l[0]?) h
  simp [zsec,hd] at this
theorem Dead.sec {m e q:Int} (he:Ep e) (hq:Ep q) {t x:List UInt8} (h:x∈xq e q t) (hm:e < m):Dead m (pad x):=by
 have hx:=qaw he hq h
 have h64:=xh hx
 obtain ⟨m',c,hm',rfl,hc⟩:=wG h
 have ep:pad (hd m' e q++c)=hd m' e q++(c++List.replicate (64 - (hd m' e q++c).length) 0):=by rw [pad,List.append_assoc]
 refine ⟨h64,fun q' ep' r hh=>?_,fun ep' q' r hm2 hE hh=>?_⟩
 ·rcases hm' with rfl | rfl
  ·rw [ep] at h64 hh
   rw [yR he hq h64] at hh
   simp only [Option.some.injEq,Prod.mk.injEq] at hh
   omega
  ·rw [yS h64 (by rw [ep];simp [hd])] at hh;cases hh
 ·rw [ep] at hh
  rcases hm' with rfl | rfl
  ·have:=congrArg (fun l=>l[0]?) hh
   simp [hd] at this
  ·simp only [hd,List.append_assoc,List.cons_append,List.nil_append,List.cons.injEq,true_and] at hh
   have:=(qdG he.1 he.lt hE.1 hE.lt hh).1
   omega
end Go.Proofs.YtbjidacdnjojnaaGreatDoor
end
section
namespace Go.Proofs.YtbjidacdnjojnaaGreatDoor
open Go.S
structure Rg (D:List TDisk) (G:List TLog) (g:Int) (l:TLog) (d:TDisk) (N:Nat) (R:SS):Prop where
 g:idx G g=some l
 p:idx D l.d_=some d
 k:Dk N d
 left:d.left_≠0
 f0:0≤l.from_
 z:l.size_=R.length
 n:l.from_+R.length≤N
 r:R=(d.seen_.drop l.from_.toNat).take R.length
section
variable {D:List TDisk} {G:List TLog} {g:Int} {l:TLog} {d:TDisk} {N:Nat} {R:SS}
theorem Rg.len (h:Rg D G g l d N R):R.length≤256:=by
 have:=h.n
 have:=h.f0
 have:=h.k.n
 omega
theorem Rg.at_ (h:Rg D G g l d N R) {i:Nat} {x:List UInt8} (hi:R[i]?=some x):idx d.seen_ (l.from_+(i:Int))=some x:=by
 have h0:=h.f0
 have hl:=(List.getElem?_eq_some_iff.1 hi).1
 rw [h.r,List.getElem?_take_of_lt hl,List.getElem?_drop] at hi
 unfold idx
 rw [if_pos (by omega),show (l.from_+(i:Int)).toNat=l.from_.toNat+i by omega]
 exact hi
theorem Rg.sec (h:Rg D G g l d N R) {i:Nat} {x:List UInt8} (hi:R[i]?=some x):M37 l.d_ (l.from_+(i:Int)) D=some (x,0):=by
 have h0:=h.f0
 have hn:=h.n
 have hl:=(List.getElem?_eq_some_iff.1 hi).1
 exact qhi h.p h.k h.left (by omega) (by omega) (h.at_ hi)
theorem Rg.l64 (h:Rg D G g l d N R) {i:Nat} {x:List UInt8} (hi:R[i]?=some x):x.length=64:=h.k.t64 x (zW (h.at_ hi))
theorem qkw {s p:List UInt8} (hs:s.length≤1000):M60 s p=some (decide (s.take p.length=p)):=by
 rw [M60,M82]
 by_cases c:p.length≤s.length
 ·rw [if_pos (by omega),qJ (by omega) (by omega) (by omega),qa,qa];simp
 ·rw [if_neg (by omega),qa,decide_eq_false]
  intro h
  have:=congrArg List.length h
  simp at this;omega
theorem qfy (h:Rg D G g l d N R) (at_:Nat) (x35 x29:Int) {ep:Int} {hh:List UInt8} (hhl:hh.length≤21) (h29:0≤x29) (h35:x29+4≤x35) (h35':x35≤100000):∀ (k sz:Nat) (s:List UInt8),at_+sz+k=R.length+1→1≤sz→s.length≤64*sz→∀ n,k < n→∃ rec b,jV x35 (at_:Int) G g D hh x29 ep n s (sz:Int)=some (rec,b)∧(b=true→rec.epoch_=ep):=by
 have hN:=h.len
 have hfin:∀ (s:List UInt8) (sz:Nat),s.length≤100000→¬ ((s.length:Int) < x35)→∃ rec b,qaV x35 x29 ep s (sz:Int)=some (rec,b)∧(b=true→rec.epoch_=ep):=by
  intro s sz hs hlt
  rw [qaV,qJ (by omega) (by omega) (by omega),qa]
  obtain ⟨t,e,h1,h2⟩:=qhM ((s.take x35.toNat).drop (0:Int).toNat) (by simp;omega)
  have hlen:((s.take x35.toNat).drop (0:Int).toNat).length=x35.toNat:=by simp;omega
  rw [h1,qg]
  by_cases he:e=0
  ·have:=h2 he
   rw [if_neg (by simpa using he),qJ (by omega) (by omega) (by omega),qa]
   exact ⟨_,_,rfl,fun _=>rfl⟩
  ·rw [if_pos he];exact ⟨_,_,rfl,fun h=>by cases h⟩
 intro k
 induction k with
 | zero =>
  intro sz s hk hsz hs n hn
  obtain ⟨n,rfl⟩:=Nat.exists_eq_add_one.2 hn
  rw [jV,vk]
  split
  ·rw [qr (by omega) (by omega),qa,h.g,qa,if_pos (by rw [h.z];omega)]
   exact ⟨_,_,rfl,fun h=>by cases h⟩
  ·exact hfin s sz (by omega) (by assumption)
 | succ k ih =>
  intro sz s hk hsz hs n hn
  obtain ⟨n,rfl⟩:=Nat.exists_eq_add_one.2 (show 0 < n by omega)
  rw [jV,vk]
  split
  ·rw [qr (by omega) (by omega),qa,h.g,qa,h.z]
   split
   ·exact ⟨_,_,rfl,fun h=>by cases h⟩
   ·rename_i hlt
    have hf0:=h.f0
    have hfn:=h.n
    have hkn:=h.k.n
    obtain ⟨x,hx⟩:∃ x,R[at_+sz]?=some x:=⟨_,List.getElem?_eq_getElem (by omega)⟩
    have hr:=h.sec hx
    rw [show l.from_+((at_+sz:Nat):Int)=l.from_+(at_:Int)+(sz:Int) by push_cast;omega] at hr
    have hx64:=h.l64 hx
    rw [qr (by omega) (by omega),qa,qr (by omega) (by omega),qa,hr,qg,if_neg (by simp),qkw (by omega),qa]
    by_cases c:x.take hh.length=hh
    ·rw [if_pos (by simpa using c),qJ (by omega) (by omega) (by omega),qa,qV (by simp;omega),qa,qr (by omega) (by omega),qa,show ((sz:Int)+1)=((sz+1:Nat):Int) by push_cast;rfl]
     exact ih (sz+1) _ (by omega) (by omega) (by simp;omega) n (by omega)
    ·rw [if_neg (by simpa using c)];exact ⟨_,_,rfl,fun h=>by cases h⟩
  ·exact hfin s sz (by omega) (by assumption)
theorem qbc (h:Rg D G g l d N R) (at_:Nat) {q:Int} (hq:I64 q):∃ rec b,M39 g (at_:Int) q D G=some (rec,b)∧(b=true→∃ x r,R[at_]?=some x∧M67 x q=some (rec.epoch_,r,true)):=by
 have hN:=h.len
 rw [M39,h.g,qa,h.z]
 split
 ·exact ⟨_,_,rfl,fun h=>by cases h⟩
 ·rename_i hlt
  have hf0:=h.f0
  have hfn:=h.n
  have hkn:=h.k.n
  obtain ⟨x,hx⟩:∃ x,R[at_]?=some x:=⟨_,List.getElem?_eq_getElem (by omega)⟩
  have hr:=h.sec hx
  have hx64:=h.l64 hx
  obtain ⟨ep,s,b,h1,h2,h3⟩:=qcM x hx64 q
  rw [qr (by omega) (by omega),qa,hr,qg,if_neg (by simp),h1,ql]
  cases b with
  | false=>rw [if_neg (by simp)];exact ⟨_,_,rfl,fun h=>by cases h⟩
  | true =>
   obtain ⟨a,k,e,g1,g2⟩:=qgK s (by omega)
   have:=g2.n0
   have:=g2.k0
   have:=g2.k1
   rw [if_pos rfl,g1,ql]
   split
   ·exact ⟨_,_,rfl,fun h=>by cases h⟩
   ·split
    ·exact ⟨_,_,rfl,fun h=>by cases h⟩
    ·obtain ⟨hh,g3,g4⟩:=qgI 2 h2 hq
     rw [xv (by omega) (by omega),qr (by omega) (by omega),qa,qr (by omega) (by omega),qa,g3,qa]
     obtain ⟨rec,b,g5,g6⟩:=qfy h at_ (k+a+4) k (ep:=ep) g4 (by omega) (by omega) (by omega) (R.length - at_) 1 s (by omega) (by omega) (by omega) big (by rw [qy];omega)
     exact ⟨rec,b,g5,fun hb=>⟨x,s,hx,by rw [g6 hb];exact h1⟩⟩
inductive Mix (m:Int):SS→SS→Prop
 | nil:Mix m [] []
 | cons {x y:List UInt8} {T S:SS}:x=y∨Dead m x→Mix m T S→Mix m (x :: T) (y :: S)
theorem Mix.refl (m:Int):∀ (S:SS),Mix m S S
 | []=>.nil
 | x :: S=>.cons (.inl rfl) (Mix.refl m S)
theorem Mix.len {m:Int} {T S:SS} (h:Mix m T S):T.length=S.length:=by
 induction h with
 | nil=>rfl
 | cons _ _ ih=>simp [ih]
def pS (e q:Int) (t:List UInt8):SS:=(xq e q t).map pad
theorem yw {e q:Int} {m:UInt8} {B:List UInt8} (hB:B.drop (64 - hl e q)≠[]) (hh:hl e q≤64):pad (hd m e q++B.take (64 - hl e q))=hd m e q++B.take (64 - hl e q):=by
 have h1:64 - hl e q < B.length:=by
  rcases Nat.lt_or_ge (64 - hl e q) B.length with h | h
  ·exact h
  ·exact absurd (List.drop_eq_nil_of_le h) hB
 have h2:=kX m e q
 unfold pad
 rw [List.length_append,h2,List.length_take,Nat.min_eq_left (by omega),show 64 - (hl e q+(64 - hl e q))=0 by omega,List.replicate_zero,List.append_nil]
theorem yH (h x:List UInt8):∃ z,pad (h++x)=h++(x++z)∧(pad (h++x)=h++x→z=[]):=by
 refine ⟨List.replicate (64 - (h++x).length) 0,by rw [pad,List.append_assoc],fun hp=>?_⟩
 rw [pad] at hp
 exact List.append_cancel_left (hp.trans (List.append_nil _).symm)
theorem qfx (h:Rg D G g l d N R) (at_:Nat) {e q:Int} (he:Ep e) (hq:Ep q) {t:List UInt8} (ht:t.length≤300):∀ (f:Nat) (B' P Z:List UInt8) (T rest:SS) (sz:Nat),body t=P++B'→(B'≠[]→Z=[])→B'.length≤f→Z.length≤64→R.drop (at_+sz)=T++rest→Mix e T ((kh e q f 2 B').map pad)→1≤sz→sz≤1000→∀ n,f < n →
  ∃ rec b,jV ((body t).length:Int) (at_:Int) G g D (hd 2 e q) ((enc 10 t.length).length:Int) e n (P++Z) (sz:Int)=some (rec,b)∧(T=(kh e q f 2 B').map pad→b=true∧rec=⟨e,t,((sz+(kh e q f 2 B').length:Nat):Int)⟩)∧(T≠(kh e q f 2 B').map pad→b=false):=by
 have hN:=h.len
 have hb:=jw ht
 have h7:=qeb he hq
 have hpl:=jo (s:=t) (by omega)
 have hfin:∀ (P Z:List UInt8) (sz:Nat),body t=P→Z.length≤64→qaV ((body t).length:Int) ((enc 10 t.length).length:Int) e (P++Z) (sz:Int)=some (⟨e,t,(sz:Int)⟩,true):=by
  intro P Z sz hP hZ
  subst hP
  have e1:((body t++Z).take ((body t).length:Int).toNat).drop (0:Int).toNat=body t:=by simp
  have hen:=vS 10 1 t.length (by simp;omega)
  rw [qaV,qJ (by omega) (by omega) (by simp;omega),qa,e1,body,qiS (by omega),qg,if_neg (by simp),qJ (by omega) (by simp [pT];omega) (by omega),qa]
  congr 3
  rw [Int.toNat_natCast,Int.toNat_natCast,List.take_length]
  simp [pT]
 intro f
 induction f with
 | zero =>
  intro B' P Z T rest sz hB hZ hf hZl hR hM hsz hsz2 n hn
  obtain rfl:B'=[]:=List.eq_nil_of_length_eq_zero (by omega)
  obtain ⟨n,rfl⟩:=Nat.exists_eq_add_one.2 hn
  rw [List.append_nil] at hB
  rw [jV,vk,if_neg (by rw [hB];simp;omega),hfin P Z sz hB hZl]
  have hT:T=[]:=by cases hM;rfl
  exact ⟨_,_,rfl,fun _=>⟨rfl,by simp [kh]⟩,fun h=>absurd (by rw [hT];simp [kh]) h⟩
 | succ f ih =>
  intro B' P Z T rest sz hB hZ hf hZl hR hM hsz hsz2 n hn
  obtain ⟨n,rfl⟩:=Nat.exists_eq_add_one.2 (show 0 < n by omega)
  by_cases h0:B'=[]
  ·subst h0
   rw [List.append_nil] at hB
   rw [jV,vk,if_neg (by rw [hB];simp;omega),hfin P Z sz hB hZl]
   have hc:(kh e q (f+1) 2 []).map pad=[]:=by simp [kh]
   rw [hc] at hM ⊢
   have hT:T=[]:=by cases hM;rfl
   exact ⟨_,_,rfl,fun _=>⟨rfl,by simp [kh]⟩,fun h=>absurd hT h⟩
  ·have hBp:0 < B'.length:=List.length_pos_iff.2 h0
   obtain rfl:=hZ h0
   have hBl:=congrArg List.length hB
   rw [List.length_append] at hBl
   have hc:kh e q (f+1) 2 B'=(hd 2 e q++B'.take (64 - hl e q)) :: kh e q f 2 (B'.drop (64 - hl e q)):=by rw [kh,if_neg h0]
   rw [hc,List.map_cons] at hM ⊢
   have hat:at_+sz < R.length:=by
    have h1:=congrArg List.length hR
    have h2:=hM.len
    simp at h1 h2
    omega
   rw [List.append_nil,jV,vk,if_pos (by omega),qr (by omega) (by omega),qa,h.g,qa,h.z]
   cases hM with
   | @cons x y T' S' hxy hM' =>
    have hx:R[at_+sz]?=some x:=by
     have:=congrArg (fun l=>l[0]?) hR
     simpa using this
    have hxl:=(List.getElem?_eq_some_iff.1 hx).1
    have hR2:R.drop (at_+(sz+1))=T'++rest:=by
     have:=congrArg List.tail hR
     rw [List.tail_drop] at this
     simpa [Nat.add_assoc] using this
    have hf0:=h.f0
    have hfn:=h.n
    have hkn:=h.k.n
    have hr:=h.sec hx
    rw [show l.from_+((at_+sz:Nat):Int)=l.from_+(at_:Int)+(sz:Int) by push_cast;omega] at hr
    have hx64:=h.l64 hx
    rw [if_neg (by omega),qr (by omega) (by omega),qa,qr (by omega) (by omega),qa,hr,qg,if_neg (by simp),qkw (by omega),qa]
    by_cases c:x.take (hd 2 e q).length=hd 2 e q
    ·have hxe:x=pad (hd 2 e q++B'.take (64 - hl e q)):=by
      rcases hxy with h1 | h1
      ·exact h1
      ·exact absurd (by conv=>lhs;rw [← List.take_append_drop (hd 2 e q).length x,c]) (h1.p e q (x.drop (hd 2 e q).length) (Int.le_refl _) he)
     obtain ⟨z,hz1,hz2⟩:=yH (hd 2 e q) (B'.take (64 - hl e q))
     have e2:(x.take (x.length:Int).toNat).drop ((hd 2 e q).length:Int).toNat=B'.take (64 - hl e q)++z:=by
      rw [Int.toNat_natCast,Int.toNat_natCast,List.take_length,hxe,hz1];simp
     have hzl:(B'.take (64 - hl e q)++z).length≤64:=by rw [← e2];simp;omega
     have hh:=kX 2 e q
     rw [if_pos (by simpa using c),qJ (by omega) (by omega) (by omega),qa,e2,qV (by omega),qa,qr (by omega) (by omega),qa,show ((sz:Int)+1)=((sz+1:Nat):Int) by push_cast;rfl,← List.append_assoc]
     have hzz:B'.drop (64 - hl e q)≠[]→z=[]:=fun hne=>hz2 (yw hne (by omega))
     obtain ⟨rec,b,g1,g2,g3⟩:=ih (B'.drop (64 - hl e q)) (P++B'.take (64 - hl e q)) z T' rest (sz+1) (by rw [List.append_assoc,List.take_append_drop];exact hB) hzz (by rw [List.length_drop];omega) (by rw [List.length_append] at hzl;omega) hR2 hM' (by omega) (by
      have:=(List.getElem?_eq_some_iff.1 hx).1
      omega) n (by omega)
     refine ⟨rec,b,g1,fun hT=>?_,fun hT=>?_⟩
     ·rw [List.cons.injEq] at hT
      obtain ⟨g4,g5⟩:=g2 hT.2
      refine ⟨g4,?_⟩
      rw [g5,List.length_cons]
      congr 1
      push_cast;omega
     ·refine g3 fun hT2=>hT ?_
      rw [hxe,hT2]
    ·rw [if_neg (by simpa using c)]
     refine ⟨_,_,rfl,fun hT=>?_,fun _=>rfl⟩
     rw [List.cons.injEq] at hT
     exfalso
     apply c
     rw [hT.1,pad,List.append_assoc]
     simp
theorem qbb (h:Rg D G g l d N R) (at_:Nat) {e q:Int} (he:Ep e) (hq:Ep q) {t:List UInt8} (ht:t.length≤300) {x:List UInt8} {T S rest:SS} (hR:R.drop at_=x :: T++rest) (hS:pS e q t=x :: S) (hM:Mix e T S) :
  ∃ rec b,M39 g (at_:Int) q D G=some (rec,b)∧(T=S→b=true∧rec=⟨e,t,((xq e q t).length:Int)⟩)∧(T≠S→b=false):=by
 have hN:=h.len
 have hb:=jw ht
 have h7:=qeb he hq
 have hpl:=jo (s:=t) (by omega)
 have hen:=vS 10 1 t.length (by simp;omega)
 obtain ⟨f,hf⟩:=Nat.exists_eq_add_one.2 (show 0 < (body t).length by omega)
 have hsec:xq e q t=(hd 1 e q++(body t).take (64 - hl e q)) :: kh e q f 2 ((body t).drop (64 - hl e q)):=by
  unfold xq
  rw [hf,kh,if_neg (by intro h0;rw [h0] at hf;simp at hf)]
 rw [pS,hsec,List.map_cons,List.cons.injEq] at hS
 obtain ⟨hx0,rfl⟩:=hS
 have hx:R[at_]?=some x:=by
  have:=congrArg (fun l=>l[0]?) hR
  simpa using this
 have hxl:=(List.getElem?_eq_some_iff.1 hx).1
 have hR2:R.drop (at_+1)=T++rest:=by
  have:=congrArg List.tail hR
  rw [List.tail_drop] at this
  simpa using this
 have hf0:=h.f0
 have hfn:=h.n
 have hkn:=h.k.n
 have hx64:=h.l64 hx
 obtain ⟨z,hz1,hz2⟩:=yH (hd 1 e q) ((body t).take (64 - hl e q))
 have hhd:=kX 1 e q
 rw [M39,h.g,qa,h.z,if_neg (by omega),qr (by omega) (by omega),qa,h.sec hx,qg,if_neg (by simp)]
 have hxe:x=hd 1 e q++((body t).take (64 - hl e q)++z):=by rw [← hx0,hz1]
 have h64:(hd 1 e q++((body t).take (64 - hl e q)++z)).length=64:=by rw [← hxe];exact hx64
 rw [hxe,yR he hq h64,ql,if_pos (by simp)]
 have hbt:body t=enc 10 t.length++(body t).drop (enc 10 t.length).length:=by
  obtain ⟨s,hs,_⟩:=qfp (s:=pT t) (by omega)
  have:body t=enc 10 t.length++(t++s):=by rw [body,hs,pT,List.append_assoc]
  rw [this];simp
 have hbt2:(body t).take (64 - hl e q)++z=enc 10 t.length++(((body t).drop (enc 10 t.length).length).take (64 - hl e q - (enc 10 t.length).length)++z):=by
  conv=>lhs;rw [hbt]
  rw [List.take_append,List.take_of_length_le (by omega),List.append_assoc]
 have hbl:(body t).length=(enc 10 t.length).length+t.length+4:=by
  have:=vI (s:=pT t) (by omega)
  unfold body
  rw [this];simp [pT]
 rw [hbt2,jN _ _ (by omega),ql,if_neg (by simp),if_neg (by omega),xv (by omega) (by omega),qr (by omega) (by omega),qa,qr (by omega) (by omega),qa,qec he hq,qa,← hbt2]
 rw [show ((enc 10 t.length).length:Int)+(t.length:Int)+4=((body t).length:Int) by rw [hbl];push_cast;rfl]
 have hzz:(body t).drop (64 - hl e q)≠[]→z=[]:=fun hne=>hz2 (yw hne (by omega))
 have hzl:z.length≤64:=by rw [List.length_append,List.length_append] at h64;omega
 obtain ⟨rec,b,g1,g2,g3⟩:=qfx h at_ he hq ht f ((body t).drop (64 - hl e q)) ((body t).take (64 - hl e q)) z T rest 1 (List.take_append_drop _ _).symm hzz (by rw [List.length_drop];omega) hzl hR2 hM (by omega) (by omega) big (by rw [qy];omega)
 refine ⟨rec,b,g1,fun hT=>?_,g3⟩
 obtain ⟨g4,g5⟩:=g2 hT
 refine ⟨g4,?_⟩
 rw [g5,hsec,List.length_cons]
 congr 1
 push_cast;omega
end
end Go.Proofs.YtbjidacdnjojnaaGreatDoor
end
section
namespace Go.Proofs.YtbjidacdnjojnaaGreatDoor
open Go.S
abbrev Recs:=List (Int×List UInt8)
inductive Stop (R:SS) (a:Nat) (q last:Int):Prop
 | full:R.length≤a→Stop R a q last
 | dead {x:List UInt8}:R[a]?=some x→Dead last x→Stop R a q last
 | torn {e:Int} {t x:List UInt8} {T S rest:SS}:Ep e→t.length≤300→R.drop a=x :: T++rest→pS e q t=x :: S→Mix e T S→T≠S→Stop R a q last
inductive Reads (R:SS) (E:Int):Nat→Int→Int→Recs→Prop
 | stop {a:Nat} {q last:Int}:Stop R a q last→Reads R E a q last []
 | next {a:Nat} {q last e:Int} {t:List UInt8} {rest:SS} {rs:Recs}:R.drop a=pS e q t++rest→last≤e→e≤E→Ep e→t.length≤300→Reads R E (a+(pS e q t).length) (q+1) e rs→Reads R E a q last ((e,t) :: rs)
def xd:Nat→Int→Recs→Nat
 | a,_,[]=>a
 | a,q,(e,t) :: rs=>xd (a+(pS e q t).length) (q+1) rs
theorem vH {e q:Int} (he:Ep e) (hq:Ep q) {t:List UInt8} (h:t.length≤300):(pS e q t).length≤6∧1≤(pS e q t).length:=by
 have:=xJ he hq h
 simpa [pS] using this
theorem Ep.of {q:Int} {n:Nat} (h0:0≤q) (h:q≤n) (hn:n≤1000000):Ep q:=⟨h0,by omega⟩
section
variable {D:List TDisk} {G:List TLog} {g:Int} {l:TLog} {d:TDisk} {N:Nat} {R:SS}
theorem qhe (h:Rg D G g l d N R) {a:Nat} {q last:Int} (hq:Ep q) (hs:Stop R a q last):∃ rec b,M39 g (a:Int) q D G=some (rec,b)∧(b=true→rec.epoch_ < last):=by
 have hI:I64 q:=⟨by have:=hq.1;omega,by have:=hq.2;omega⟩
 cases hs with
 | full h1 =>
  obtain ⟨rec,b,g1,g2⟩:=qbc h a hI
  refine ⟨rec,b,g1,fun hb=>?_⟩
  obtain ⟨x,r,hx,_⟩:=g2 hb
  have:=(List.getElem?_eq_some_iff.1 hx).1
  omega
 | dead h1 h2 =>
  obtain ⟨rec,b,g1,g2⟩:=qbc h a hI
  refine ⟨rec,b,g1,fun hb=>?_⟩
  obtain ⟨x,r,hx,hh⟩:=g2 hb
  rw [h1,Option.some.injEq] at hx
  subst hx
  exact h2.h q _ r hh
 | torn he ht hR hS hM hne =>
  obtain ⟨rec,b,g1,_,g2⟩:=qbb h a he hq ht hR hS hM
  refine ⟨rec,b,g1,fun hb=>?_⟩
  rw [g2 hne] at hb;cases hb
theorem qiC (h:Rg D G g l d N R) {a:Nat} {e q:Int} (he:Ep e) (hq:Ep q) {t:List UInt8} (ht:t.length≤300) {rest:SS} (hR:R.drop a=pS e q t++rest):M39 g (a:Int) q D G=some (⟨e,t,((pS e q t).length:Int)⟩,true):=by
 have hc:=vH he hq ht
 obtain ⟨x,S,hS⟩:∃ x S,pS e q t=x :: S:=by
  cases hp:pS e q t with
  | nil=>rw [hp] at hc;simp at hc
  | cons x S=>exact ⟨x,S,rfl⟩
 rw [hS] at hR
 obtain ⟨rec,b,g1,g2,_⟩:=qbb h a he hq ht hR hS (Mix.refl e S)
 obtain ⟨rfl,rfl⟩:=g2 rfl
 rw [g1]
 simp [pS]
theorem Rg.moved (h:Rg D G g l d N R) (at_ seq_:Int):Rg D (G.set g.toNat ⟨l.d_,l.from_,l.size_,l.epoch_,at_,seq_,l.fell_⟩) g ⟨l.d_,l.from_,l.size_,l.epoch_,at_,seq_,l.fell_⟩ d N R :=
 ⟨qp h.g,h.p,h.k,h.left,h.f0,h.z,h.n,h.r⟩
theorem qdN (E:Int) (hE:E≤1000000):∀ (rs:Recs) (G:List TLog) (l:TLog) (a:Nat) (q last:Int) (out:SS),Rg D G g l d N R→l.epoch_=E→l.at_=(a:Int)→l.seq_=q→Reads R E a q last rs→0≤q→q≤a→out.length≤a→a≤300→∀ n,rs.length < n →
  yc g D n out last G=yd D g (out++rs.map (·.2)) (G.set g.toNat ⟨l.d_,l.from_,l.size_,l.epoch_,(xd a q rs:Nat),q+rs.length,l.fell_⟩):=by
 intro rs
 induction rs with
 | nil =>
  intro G l a q last out h hle hla hls hr hq0 hqa hout ha n hn
  obtain ⟨n,rfl⟩:=Nat.exists_eq_add_one.2 hn
  rw [yc,qcd,h.g,qa,hla,hls]
  cases hr with
  | stop hs =>
   obtain ⟨rec,b,g1,g2⟩:=qhe h (Ep.of hq0 hqa (by omega)) hs
   rw [g1,qg]
   have hsame:G.set g.toNat ⟨l.d_,l.from_,l.size_,l.epoch_,(xd a q []:Nat),q+(([]:Recs).length:Int),l.fell_⟩=G:=by
    have e0:(⟨l.d_,l.from_,l.size_,l.epoch_,(xd a q []:Nat),q+(([]:Recs).length:Int),l.fell_⟩:TLog)=l:=by
     obtain ⟨x1,x2,x3,x4,x5,x6,x7⟩:=l
     simp only at hla hls
     subst hla;subst hls
     simp [xd]
    rw [e0,qP h.g]
   rw [hsame]
   cases b with
   | false=>rw [if_neg (by simp),qaZ,if_neg (by simp),h.g,qa];simp
   | true=>rw [if_pos rfl,qaZ,if_pos rfl,h.g,qa,if_pos (g2 rfl)];simp
 | cons er rs ih =>
  intro G l a q last out h hle hla hls hr hq0 hqa hout ha n hn
  obtain ⟨n,rfl⟩:=Nat.exists_eq_add_one.2 (show 0 < n by omega)
  rw [yc,qcd,h.g,qa,hla,hls]
  have hRl:=h.len
  cases hr with
  | @next _ _ _ e t rest _ hR hl1 hl2 he ht hr' =>
   have hq:=Ep.of hq0 hqa (show a≤1000000 by omega)
   have hc:=vH he hq ht
   have hal:a+(pS e q t).length≤R.length:=by
    have:=congrArg List.length hR
    simp at this;omega
   rw [qiC h he hq ht hR,qg,if_pos rfl,qaZ,if_pos rfl,h.g,qa]
   simp only
   rw [if_neg (by omega),if_neg (by omega),hla,hls,qr (by omega) (by omega),qa,qX (by simp;omega),qa,qr (by omega) (by omega),qa,qu h.g,qa]
   have h2:=h.moved ((a:Int)+((pS e q t).length:Int)) (q+1)
   rw [ih _ _ (a+(pS e q t).length) (q+1) e (out++[t]) h2 hle (by push_cast;rfl) rfl hr' (by omega) (by omega) (by simp;omega) (by omega) n (by simp at hn;omega)]
   simp only [List.map_cons,List.append_assoc,List.singleton_append,xd,List.length_cons,qD]
   congr 3
   push_cast;omega
theorem jQ {e:Int} (h:idx G g=some l) (he:e≠0):M45 g e G=some (G.set g.toNat ⟨l.d_,l.from_,l.size_,l.epoch_,l.at_,l.seq_,true⟩,e):=by
 rw [M45,h,qa]
 split
 ·rw [qu h,qa]
 ·rw [qu h,qa,decide_eq_true he]
theorem qhR (h:idx G g=some l) (hf:l.fell_=false):M45 g 0 G=some (G,0):=by
 rw [M45,h,qa,if_neg (by simp [hf]),qu h,qa]
 have:(⟨l.d_,l.from_,l.size_,l.epoch_,l.at_,l.seq_,decide ((0:Int)≠0)⟩:TLog)=l:=by
  obtain ⟨x1,x2,x3,x4,x5,x6,x7⟩:=l
  simp only at hf
  subst hf;rfl
 rw [this,qP h]
def wr (d:TDisk) (a:Int) (x:List UInt8):TDisk:=⟨d.safe_,d.seen_.set a.toNat (pad x),d.late_++[⟨a,pad x⟩],kf d.left_⟩
def fl (d:TDisk):TDisk:=⟨d.seen_,d.seen_,[],kf d.left_⟩
structure Lg (D:List TDisk) (G:List TLog) (g:Int) (l:TLog) (d:TDisk) (N:Nat):Prop where
 g:idx G g=some l
 p:idx D l.d_=some d
 k:Dk N d
 f0:0≤l.from_
 n:l.from_+l.size_≤N
 z:2≤l.size_
 e:Ep l.epoch_
 ll:d.late_.length < 999000
theorem qcB (h:Lg D G g l d N) (hE:1000000≤l.epoch_):M40 g D G=some (D,G,8):=by
 rw [M40,h.g,qa,if_pos hE]
theorem qdC (h:Lg D G g l d N) (hE:l.epoch_ < 1000000) (h0:d.left_=0):M40 g D G=some (D,G.set g.toNat ⟨l.d_,l.from_,l.size_,l.epoch_,l.at_,l.seq_,true⟩,13):=by
 have:=h.e.1
 have:=h.f0
 have:=h.n
 have:=h.z
 have ha:=xR (l.epoch_+1)
 rw [M40,h.g,qa,if_neg (by omega),qr (by omega) (by omega),qa,vj (by omega) (by omega),qa,wd h.p h.k h0 (by omega) (by omega) (by omega),qg,if_pos (by decide),jQ h.g (by decide),qg]
theorem qdB (h:Lg D G g l d N) (hE:l.epoch_ < 1000000) (h0:d.left_=1):M40 g D G=some (D.set l.d_.toNat (wr d l.from_ (aT (l.epoch_+1))),G.set g.toNat ⟨l.d_,l.from_,l.size_,l.epoch_,l.at_,l.seq_,true⟩,13):=by
 have:=h.e.1
 have:=h.f0
 have:=h.n
 have:=h.z
 have ha:=xR (l.epoch_+1)
 rw [M40,h.g,qa,if_neg (by omega),qr (by omega) (by omega),qa,vj (by omega) (by omega),qa,jg h.p h.k (by omega) (by omega) (by omega) (by omega),qg,if_neg (by decide),qa,wC (qp h.p) (by simp [kf,h0]),qg,if_pos (by decide),jQ h.g (by decide),qg]
 rfl
theorem qfn (h:Lg D G g l d N) (hE:l.epoch_ < 1000000) (h0:d.left_≠0) (h1:d.left_≠1):M40 g D G=some (D.set l.d_.toNat (fl (wr d l.from_ (aT (l.epoch_+1)))),G.set g.toNat ⟨l.d_,l.from_,l.size_,l.epoch_+1,l.at_,l.seq_,l.fell_⟩,0):=by
 have:=h.e.1
 have:=h.f0
 have:=h.n
 have:=h.z
 have hll:=h.ll
 have ha:=xR (l.epoch_+1)
 have hw:=h.k.wrote (a:=l.from_) (x:=aT (l.epoch_+1)) (by omega) (by omega) (by omega) (by omega)
 rw [M40,h.g,qa,if_neg (by omega),qr (by omega) (by omega),qa,vj (by omega) (by omega),qa,jg h.p h.k h0 (by omega) (by omega) (by omega),qg,if_neg (by decide),qa,wB (qp h.p) hw (by simp only [kf];split <;> omega),qg,if_neg (by decide),qa,qr (by omega) (by omega),qa,qu h.g,qa,qD]
 rfl
end
section
variable {D:List TDisk} {G:List TLog} {p f z:Int} {d:TDisk} {N:Nat} {R:SS}
structure Pt (D:List TDisk) (p f:Int) (d:TDisk) (N:Nat) (R:SS):Prop where
 p:idx D p=some d
 k:Dk N d
 left:d.left_=-1
 f0:0≤f
 z:2≤R.length
 n:f+R.length≤N
 r:R=(d.seen_.drop f.toNat).take R.length
theorem Pt.rg (h:Pt D p f d N R) {E at_ seq_:Int} {fell_:Bool}:Rg D (G++[⟨p,f,R.length,E,at_,seq_,fell_⟩]) (G.length:Int) ⟨p,f,R.length,E,at_,seq_,fell_⟩ d N R :=
 ⟨qL,h.p,h.k,by rw [h.left];decide,h.f0,rfl,h.n,h.r⟩
theorem qdO (h:Pt D p f d N R) {E:Int} (hE:Ep E) {s0:List UInt8} (hs0:R[0]?=some s0) (hep:M38 s0=some (E,0)) {rs:Recs} (hr:Reads R E 1 0 0 rs) (hrl:rs.length≤300) :
  M21 p f (R.length:Int) D G=yd D (G.length:Int) (rs.map (·.2)) (G++[⟨p,f,R.length,E,(xd 1 0 rs:Nat),rs.length,false⟩]):=by
 have hf0:=h.f0
 have hz:=h.z
 have hn:=h.n
 have hkn:=h.k.n
 have hRg:=h.rg (G:=G) (E:=E) (at_:=1) (seq_:=0) (fell_:=false)
 have hsec:=hRg.sec hs0
 simp only [Int.natCast_zero,Int.add_zero] at hsec
 rw [M21,if_neg (by omega),if_neg (by omega),qa0,if_neg (by simp),qdZ h.p h.k,qa,if_neg (by omega),qa,qr (by omega) (by omega),qa,if_neg (by omega)]
 rw [show M37 p f D=some (s0,0) from by simpa using hsec,qg,if_neg (by simp),hep,qg,if_neg (by simp),qcD,qg]
 rw [qdN E hE.2 rs _ _ 1 0 0 [] hRg rfl (by rfl) rfl hr (by omega) (by omega) (by simp) (by omega) big (by rw [qy];omega)]
 simp
theorem yI (h:Pt D p f d N R) {s0:List UInt8} (hs0:R[0]?=some s0) (hep:M38 s0=some (1000000,0)) {rs:Recs} (hr:Reads R 1000000 1 0 0 rs) (hrl:rs.length≤300) :
  ∃ G',M21 p f (R.length:Int) D G=some (D,G',-1,[],8):=by
 rw [qdO h ⟨by decide,by decide⟩ hs0 hep hr hrl,yd]
 rw [M40,qL,qa]
 simp only
 rw [if_pos (by decide),ql,xn rfl,qa,if_pos (by decide)]
 exact ⟨_,rfl⟩
theorem qdM (h:Pt D p f d N R) {E:Int} (hE:Ep E) (hE2:E < 1000000) {s0:List UInt8} (hs0:R[0]?=some s0) (hep:M38 s0=some (E,0)) {rs:Recs} (hr:Reads R E 1 0 0 rs) (hrl:rs.length≤300) :
  M21 p f (R.length:Int) D G=some (D.set p.toNat ⟨d.seen_.set f.toNat (pad (aT (E+1))),d.seen_.set f.toNat (pad (aT (E+1))),[],-1⟩,G++[⟨p,f,R.length,E+1,(xd 1 0 rs:Nat),rs.length,false⟩],(G.length:Int),rs.map (·.2),0):=by
 rw [qdO h hE hs0 hep hr hrl,yd]
 have hlg:Lg D (G++[⟨p,f,R.length,E,(xd 1 0 rs:Nat),rs.length,false⟩]) (G.length:Int) ⟨p,f,R.length,E,(xd 1 0 rs:Nat),rs.length,false⟩ d N∨True:=.inr trivial
 have hf0:=h.f0
 have hz:=h.z
 have hn:=h.n
 have ha:=xR (E+1)
 have hE0:=hE.1
 have hl1:kf d.left_=-1:=by rw [h.left];rfl
 have hwok:=jg (D:=D) (p:=p) h.p h.k (by rw [h.left];decide) (a:=f) (by omega) (by omega) (x:=aT (E+1)) (by omega)
 rw [M40,qL,qa]
 simp only
 rw [if_neg (by omega),qr (by omega) (by omega),qa,vj (by omega) (by omega),qa,hwok,qg,if_neg (by decide),qa]
 rw [M46,M73,qp h.p,qa]
 simp only [hl1]
 rw [if_neg (by decide),if_neg (by decide),qg,if_neg (by decide),qp h.p,qa,qu (qp h.p),qa,qg,if_neg (by decide),qa]
 simp only
 rw [qr (by omega) (by omega),qa,qu qL,qa,ql,xn (by simp),qa,if_neg (by decide),qD,qaS (by simp [h.k.s,h.k.t])]
 simp
end
end Go.Proofs.YtbjidacdnjojnaaGreatDoor
end
section
namespace Go.Proofs.YtbjidacdnjojnaaGreatDoor
open Go.S
def put (S:SS):Nat→SS→SS
  | _,[]=>S
  | a,x :: P=>put (S.set a x) (a+1) P
theorem kI:∀ (P S:SS) (a:Nat),(put S a P).length=S.length
  | [],_,_=>rfl
  | x :: P,S,a=>by rw [put,kI P];simp
theorem zL:∀ (P S:SS) (a i:Nat),a+P.length≤S.length→(put S a P)[i]?=if a≤i∧i < a+P.length then P[i - a]? else S[i]?
  | [],S,a,i,h=>by rw [put,if_neg (fun h=>by have h2:=h.2;simp at h2;omega)]
  | x :: P,S,a,i,h=>by
    rw [List.length_cons] at h
    rw [put,zL P _ (a+1) i (by simp;omega)]
    by_cases c:i=a
    · subst c
      rw [if_neg (by omega),if_pos (by simp),List.getElem?_set_self (by omega)]
      simp
    · by_cases c2:a+1≤i∧i < a+1+P.length
      · rw [if_pos c2,if_pos (by simp;omega),show i - a=(i - (a+1))+1 by omega]
        simp
      · rw [if_neg c2,if_neg (by simp;omega),List.getElem?_set_ne (by omega)]
theorem qiD {P S:SS} {a:Nat} (h:a+P.length≤S.length):put S a P=S.take a++(P++S.drop (a+P.length)):=by
  apply List.ext_getElem?
  intro i
  rw [zL P S a i h]
  by_cases c1:i < a
  · rw [if_neg (by omega),List.getElem?_append_left (by simp;omega),List.getElem?_take_of_lt c1]
  · rw [List.getElem?_append_right (by simp;omega)]
    have ha:(S.take a).length=a:=by simp;omega
    rw [ha]
    by_cases c2:i < a+P.length
    · rw [if_pos ⟨by omega,c2⟩,List.getElem?_append_left (by omega)]
    · rw [if_neg (by omega),List.getElem?_append_right (by omega),List.getElem?_drop,show a+P.length+(i - a - P.length)=i by omega]
def reg (S:SS) (f z:Nat):SS:=(S.drop f).take z
theorem zt {S:SS} {f z:Nat} (h:f+z≤S.length):(reg S f z).length=z:=by simp [reg];omega
theorem xX {S:SS} {f z i:Nat} (h:i < z):(reg S f z)[i]?=S[f+i]?:=by rw [reg,List.getElem?_take_of_lt h,List.getElem?_drop]
theorem qfl {S:SS} {f z i:Nat} (h:z≤i):(reg S f z)[i]?=none:=List.getElem?_eq_none (by simp [reg];omega)
theorem qaB {S:SS} {R:SS} {f z:Nat} (h:f+z≤S.length) (hR:R.length=z) (h2:∀ i,i < z→S[f+i]?=R[i]?):reg S f z=R:=by
  apply List.ext_getElem?
  intro i
  by_cases c:i < z
  · rw [xX c,h2 i c]
  · rw [qfl (by omega),List.getElem?_eq_none (by omega)]
theorem qba {S P:SS} {f z i:Nat} (hS:f+z≤S.length) (h:i+P.length≤z):reg (put S (f+i) P) f z=put (reg S f z) i P:=by
  have hl:=zt hS
  apply qaB (by rw [kI];exact hS) (by rw [kI];exact hl)
  intro j hj
  rw [zL P S _ _ (by omega),zL P _ _ _ (by omega)]
  by_cases c:i≤j∧j < i+P.length
  · rw [if_pos c,if_pos (by omega),show f+j - (f+i)=j - i by omega]
  · rw [if_neg c,if_neg (by omega),xX hj]
theorem xW {S P:SS} {f z a:Nat} (hS:f+z≤S.length) (ha:a+P.length≤S.length) (h:a+P.length≤f∨f+z≤a):reg (put S a P) f z=reg S f z:=by
  apply qaB (by rw [kI];exact hS) (zt hS)
  intro j hj
  rw [zL P S _ _ ha,if_neg (by omega),xX hj]
theorem qaA {S:SS} {f z:Nat} {x:List UInt8} (hS:f+z≤S.length) (hz:1≤z):reg (S.set f x) f z=(reg S f z).set 0 x:=by
  have:=qba (P:=[x]) (i:=0) hS (by simpa using hz)
  simpa [put] using this
theorem wH (keep:List Bool):∀ (L:List Twrite) (k:Nat) (S:SS) (i:Nat) (x:List UInt8),(qY keep k L S)[i]?=some x→S[i]?=some x∨∃ w∈L,w.at_.toNat=i∧x=w.text_
  | [],_,_,_,_,h=>.inl h
  | w :: L,k,S,i,x,h=>by
    rw [qY] at h
    rcases wH keep L (k+1) _ i x h with h | ⟨v,hv,h⟩
    · split at h
      · by_cases c:w.at_.toNat=i
        · right
          refine ⟨w,List.mem_cons_self,c,?_⟩
          subst c
          have hlt:w.at_.toNat < S.length:=by
            have:=(List.getElem?_eq_some_iff.1 h).1
            simpa using this
          rw [List.getElem?_set_self hlt] at h
          exact (Option.some.inj h).symm
        · rw [List.getElem?_set_ne c] at h
          exact .inl h
      · exact .inl h
    · exact .inr ⟨v,List.mem_cons_of_mem _ hv,h⟩
def lay (E:Int):Int→SS→SS
  | _,[]=>[]
  | q,t :: ts=>pS E q t++lay E (q+1) ts
theorem qd1 (E:Int):∀ (ts us:SS) (q:Int),lay E q (ts++us)=lay E q ts++lay E (q+ts.length) us
  | [],us,q=>by simp [lay]
  | t :: ts,us,q=>by
    rw [List.cons_append,lay,qd1 E ts us,lay,List.append_assoc]
    congr 3
    simp only [List.length_cons]
    push_cast;omega
theorem ky (E:Int) (ts:SS) (t:List UInt8) (q:Int):lay E q (ts++[t])=lay E q ts++pS E (q+ts.length) t:=by rw [qd1];simp [lay]
theorem Mix.mono {m m':Int} (hm:m≤m') {T S:SS} (h:Mix m T S):Mix m' T S:=by
  induction h with
  | nil=>exact .nil
  | cons h _ ih=>exact .cons (h.imp id (·.mono hm)) ih
theorem qgD {m:Int}:∀ (T S:SS),T.length=S.length→(∀ (i:Nat) x y,T[i]?=some x→S[i]?=some y→x=y∨Dead m x)→Mix m T S
  | [],[],_,_=>.nil
  | [],y :: S,h,_=>by simp at h
  | x :: T,[],h,_=>by simp at h
  | x :: T,y :: S,h,hh=>.cons (hh 0 x y rfl rfl) (qgD T S (by simpa using h) fun i=>hh (i+1))
theorem Mix.split {m:Int}:∀ (S1 S2 T:SS),Mix m T (S1++S2)→∃ T1 T2,T=T1++T2∧Mix m T1 S1∧Mix m T2 S2
  | [],S2,T,h=>⟨[],T,rfl,.nil,h⟩
  | y :: S1,S2,_,.cons (x:=x) h0 h=>by
    obtain ⟨T1,T2,rfl,h1,h2⟩:=Mix.split S1 S2 _ h
    exact ⟨x :: T1,T2,rfl,.cons h0 h1,h2⟩
theorem Mix.dead {m:Int} {T S:SS} (h:Mix m T S) (hS:∀ x∈S,Dead m x):∀ x∈T,Dead m x:=by
  induction h with
  | nil=>exact fun x hx=>(by cases hx)
  | cons h0 _ ih =>
    intro z hz
    rcases List.mem_cons.1 hz with rfl | hz
    · rcases h0 with rfl | h0
      · exact hS _ List.mem_cons_self
      · exact h0
    · exact ih (fun x hx=>hS x (List.mem_cons_of_mem _ hx)) z hz
def qiB (E:Int) (ts:SS):Recs:=ts.map fun t=>(E,t)
theorem qcA (E:Int) (ts:SS):(qiB E ts).map (·.2)=ts:=by simp [qiB,Function.comp_def]
theorem y5 {C U V:SS} {a:Nat} (h:C.drop a=U++V):C.drop (a+U.length)=V:=by rw [← List.drop_drop,h];simp
theorem qbj {C:SS} {E A m:Int} (hE:Ep E) (hA:E≤A) (hm:m≤E):∀ (ts T tail:SS) (a:Nat) (q last:Int),C.drop a=T++tail→Mix m T (lay E q ts)→(∀ x∈tail,Dead m x)→m≤last→last≤E→(∀ t∈ts,t.length≤300)→0≤q→q+ts.length≤1000000 →
    ∃ k,Reads C A a q last (qiB E (ts.take k))∧(T=lay E q ts→ts.take k=ts):=by
  intro ts
  induction ts with
  | nil =>
    intro T tail a q last hC hM ht hml hlE h300 hq0 hq1
    refine ⟨0,.stop ?_,fun _=>rfl⟩
    obtain rfl:T=[]:=List.eq_nil_of_length_eq_zero hM.len
    cases tail with
    | nil =>
      have:=congrArg List.length hC
      exact .full (by simp at this;omega)
    | cons x tail => exact .dead (x := x) (by have := congrArg (fun l => l[0]?) hC
                                              simpa using this) ((ht x List.mem_cons_self).mono hml)
  | cons t ts ih =>
    intro T tail a q last hC hM ht hml hlE h300 hq0 hq1
    have hq:Ep q:=⟨hq0,by omega⟩
    have ht3:=h300 t List.mem_cons_self
    have hc:=vH hE hq ht3
    obtain ⟨y,S,hS⟩:∃ y S,pS E q t=y :: S:=by
      cases hp:pS E q t with
      | nil=>rw [hp] at hc;simp at hc
      | cons x S=>exact ⟨x,S,rfl⟩
    rw [lay] at hM
    obtain ⟨T1,T2,rfl,hM1,hM2⟩:=Mix.split _ _ _ hM
    by_cases hT:T1=pS E q t
    · subst hT
      rw [List.append_assoc] at hC
      obtain ⟨k,g1,g2⟩:=ih T2 tail (a+(pS E q t).length) (q+1) E (y5 hC) hM2 ht hm (Int.le_refl _) (fun t h=>h300 t (List.mem_cons_of_mem _ h)) (by omega) (by simp at hq1;omega)
      refine ⟨k+1,.next hC hlE hA hE ht3 g1,fun h=>?_⟩
      rw [lay] at h
      rw [List.take_succ_cons,g2 (List.append_cancel_left h)]
    · refine ⟨0,.stop ?_,fun h=>?_⟩
      · rw [hS] at hM1 hT
        cases hM1 with
        | @cons x _ T1 _ h0 hM1 =>
          have hx:C[a]?=some x:=by
            have:=congrArg (fun l=>l[0]?) hC
            simpa using this
          by_cases hxy:x=y
          · subst hxy
            exact .torn (rest:=T2++tail) hE ht3 (by rw [hC];simp) hS (hM1.mono hm) fun h=>hT (by rw [h])
          · exact .dead hx ((h0.resolve_left hxy).mono hml)
      · rw [lay] at h
        have hl:=hM1.len
        exact absurd (List.append_inj h hl).1 hT
structure Near (m:Int) (C R:SS):Prop where
  len:C.length=R.length
  h1:C[1]?=R[1]?
  h:∀ (i:Nat) x y,1≤i→C[i]?=some x→R[i]?=some y→x=y∨Dead m x
theorem Near.refl (m:Int) (R:SS):Near m R R:=⟨rfl,rfl,fun i x y _ h1 h2=>.inl (Option.some.inj (h1.symm.trans h2))⟩
theorem Near.mix {m:Int} {C R:SS} (h:Near m C R):Mix m (C.drop 1) (R.drop 1):=by
  apply qgD
  · simp [h.len]
  · intro i x y h1 h2
    rw [List.getElem?_drop] at h1 h2
    exact h.h (1+i) x y (by omega) h1 h2
structure Whole (R:SS) (E:Int) (ts:SS) (m:Int):Prop where
  e:Ep E
  mm:m=0∨m=E∧∃ t us,ts=t :: us∧(pS E 0 t).length=1
  t3:∀ t∈ts,t.length≤300
  body:∃ tail,R.drop 1=lay E 0 ts++tail∧∀ x∈tail,Dead m x
theorem qgF {E:Int} (hE:Ep E):∀ (ts:SS) (q:Int),0≤q→q+ts.length≤1000000→(∀ t∈ts,t.length≤300)→ts.length≤(lay E q ts).length
  | [],_,_,_,_=>by simp
  | t :: ts,q,h0,h1,h3=>by
    rw [List.length_cons] at h1
    have:=qgF hE ts (q+1) (by omega) (by omega) fun t h=>h3 t (List.mem_cons_of_mem _ h)
    have hc:=vH hE (q:=q) ⟨h0,by omega⟩ (h3 t List.mem_cons_self)
    rw [lay,List.length_append,List.length_cons]
    omega
theorem qaq {R C:SS} {E A m:Int} {ts:SS} (h:Whole R E ts m) (hn:Near m C R) (hA:E≤A) (hl:ts.length≤1000):∃ k,Reads C A 1 0 0 (qiB E (ts.take k))∧(C.drop 1=R.drop 1→ts.take k=ts):=by
  obtain ⟨tail,hb,hd⟩:=h.body
  have hM:=hn.mix
  rw [hb] at hM
  obtain ⟨T1,T2,hC,hM1,hM2⟩:=Mix.split _ _ _ hM
  have hd2:=hM2.dead hd
  have he0:=h.e.1
  have hlen:=hM1.len
  have hfull:C.drop 1=R.drop 1→T1=lay E 0 ts:=fun hh=>by
    rw [hb,hC] at hh
    exact (List.append_inj hh hlen).1
  rcases h.mm with hm | ⟨hm,t,us,rfl,h1⟩
  · obtain ⟨k,g1,g2⟩:=qbj h.e hA (by omega) ts T1 T2 1 0 0 hC hM1 hd2 (by omega) (by omega) h.t3 (by omega) (by omega)
    exact ⟨k,g1,fun hh=>g2 (hfull hh)⟩
  · obtain ⟨x0,hx0⟩:∃ x0,pS E 0 t=[x0]:=List.length_eq_one_iff.1 h1
    rw [lay,hx0] at hM1 hb
    cases hM1 with
    | @cons x _ T1' _ hx hM1 =>
      have hxx:x=x0:=by
        have h2:C[1]?=some x:=by
          have:=congrArg (fun l=>l[0]?) hC
          simpa using this
        have h3:R[1]?=some x0:=by
          have:=congrArg (fun l=>l[0]?) hb
          simpa using this
        rw [hn.h1,h3] at h2
        exact (Option.some.inj h2).symm
      subst hxx
      have hC1:C.drop 1=pS E 0 t++(T1'++T2):=by rw [hx0];exact hC
      rw [List.length_cons] at hl
      obtain ⟨k,g1,g2⟩:=qbj h.e hA (show m≤E by omega) us T1' T2 (1+(pS E 0 t).length) (0+1) E (y5 hC1) hM1 hd2 (by omega) (Int.le_refl _) (fun t h4=>h.t3 t (List.mem_cons_of_mem _ h4)) (by omega) (by omega)
      refine ⟨k+1,.next hC1 he0 hA h.e (h.t3 t List.mem_cons_self) g1,fun hh=>?_⟩
      have h5:=hfull hh
      rw [lay,hx0] at h5
      rw [List.take_succ_cons,g2 (List.cons.inj h5).2]
structure Tells (R:SS) (A:Int) (ts:SS):Prop where
  eA:Ep A
  a:∃ s0,R[0]?=some s0∧M38 s0=some (A,0)
  r:∃ rs,Reads R A 1 0 0 rs∧rs.map (·.2)=ts∧rs.length≤300
theorem Reads.anchor {x y:List UInt8} {B:SS} {E E':Int} (hE:E≤E') {a:Nat} {q last:Int} {rs:Recs} (h:Reads (x :: B) E a q last rs) (ha:1≤a):Reads (y :: B) E' a q last rs:=by
  induction h with
  | @stop a q last hs =>
    obtain ⟨a,rfl⟩:=Nat.exists_eq_add_one.2 ha
    refine .stop ?_
    cases hs with
    | full h=>exact .full (by simpa using h)
    | dead h1 h2=>exact .dead (by simpa using h1) h2
    | torn h1 h2 h3 h4 h5 h6=>exact .torn h1 h2 (by simpa using h3) h4 h5 h6
  | @next a q last e t rest rs h1 h2 h3 h4 h5 h6 ih =>
    obtain ⟨a,rfl⟩:=Nat.exists_eq_add_one.2 ha
    exact .next (by simpa using h1) h2 (Int.le_trans h3 hE) h4 h5 (ih (by omega))
theorem y4 {A:Int} (h:Ep A):M38 (pad (aT A))=some (A,0):=qbx h (.inl rfl)
theorem Tells.anchor {R:SS} {A A':Int} {ts:SS} (h:Tells R A ts) (hA:A≤A') (hA':Ep A'):Tells (R.set 0 (pad (aT A'))) A' ts:=by
  obtain ⟨s0,h1,h2⟩:=h.a
  obtain ⟨rs,h3,h4,h5⟩:=h.r
  cases R with
  | nil=>simp at h1
  | cons x B=>exact ⟨hA',⟨_,by simp,y4 hA'⟩,⟨rs,h3.anchor hA (Nat.le_refl 1),h4,h5⟩⟩
theorem Tells.of {R C:SS} {E A m:Int} {ts:SS} (h:Whole R E ts m) (hn:Near m C R) (hA:E≤A) (hA1:Ep A) (h0:C[0]?=some (pad (aT A))) (hl:ts.length≤300):∃ k,Tells C A (ts.take k)∧(C.drop 1=R.drop 1→ts.take k=ts):=by
  obtain ⟨k,h1,h2⟩:=qaq h hn hA (by omega)
  exact ⟨k,⟨hA1,⟨_,h0,y4 hA1⟩,⟨_,h1,qcA _ _,by simp [qiB];omega⟩⟩,h2⟩
end Go.Proofs.YtbjidacdnjojnaaGreatDoor
end
section
namespace Go.Proofs.YtbjidacdnjojnaaGreatDoor
open Go.S
def wrs (d:TDisk) (a:Int):SS→TDisk
  | []=>d
  | x :: P=>wrs (wr d a x) (a+1) P
theorem xe:∀ (P:SS) (d:TDisk) (a:Int),(wrs d a P).safe_=d.safe_
  | [],_,_=>rfl
  | x :: P,d,a=>by rw [wrs,xe P];rfl
theorem wc:∀ (P:SS) (d:TDisk) (a:Int),0≤a→(wrs d a P).seen_=put d.seen_ a.toNat (P.map pad)
  | [],_,_,_=>rfl
  | x :: P,d,a,h=>by
    rw [wrs,wc P _ _ (by omega),List.map_cons,put,show (a+1).toNat=a.toNat+1 by omega];rfl
theorem jf:∀ (P:SS) (d:TDisk) (a:Int),d.left_ < 0→(wrs d a P).left_=d.left_
  | [],_,_,_=>rfl
  | x :: P,d,a,h=>by
    have hw:(wr d a x).left_=d.left_:=qfz h
    rw [wrs,jf P _ _ (by rw [hw];exact h),hw]
theorem qa3:∀ (P:SS) (d:TDisk) (a:Int) (w:Twrite),w∈(wrs d a P).late_→w∈d.late_∨∃ i:Nat,w.at_=a+i∧(P.map pad)[i]?=some w.text_
  | [],_,_,w,h=>.inl h
  | x :: P,d,a,w,h=>by
    rw [wrs] at h
    rcases qa3 P _ _ w h with h | ⟨i,h1,h2⟩
    · rcases List.mem_append.1 h with h | h
      · exact .inl h
      · refine .inr ⟨0,?_,?_⟩
        · rw [List.mem_singleton.1 h];simp
        · rw [List.mem_singleton.1 h];simp
    · exact .inr ⟨i+1,by rw [h1];push_cast;omega,by simpa using h2⟩
theorem yt:∀ (P:SS) (d:TDisk) (a:Int),(wrs d a P).late_.length=d.late_.length+P.length
  | [],_,_=>rfl
  | x :: P,d,a=>by
    rw [wrs,yt P,List.length_cons]
    simp only [wr,List.length_append,List.length_cons,List.length_nil]
    omega
def qek (l:TLog):TLog:=⟨l.d_,l.from_,l.size_,l.epoch_,l.at_,l.seq_,true⟩
def more (l:TLog) (k:Nat):TLog:=⟨l.d_,l.from_,l.size_,l.epoch_,l.at_+k,l.seq_+1,l.fell_⟩
section
variable {G:List TLog} {g:Int} {l:TLog} {N:Nat}
theorem qf0 (h:idx G g=some l) (h0:0≤l.from_) (h1:0≤l.at_) (hN:N≤256) (P:SS) (hP:∀ x∈P,x.length≤64) (hz:l.from_+l.at_+P.length≤N):∀ (Q:SS) (i:Nat) (D:List TDisk) (d:TDisk),P.drop i=Q→i≤P.length→idx D l.d_=some d→Dk N d→d.late_.length+Q.length≤1000000→∀ n,Q.length < n →
    ∃ j,j≤Q.length∧Dk N (wrs d (l.from_+l.at_+i) (Q.take j))∧(j < Q.length→(wrs d (l.from_+l.at_+i) (Q.take j)).left_=0∧vu P G g n (i:Int) D=some (D.set l.d_.toNat (wrs d (l.from_+l.at_+i) (Q.take j)),G.set g.toNat (qek l),13)) ∧
      (j=Q.length→vu P G g n (i:Int) D=qeX G g P (D.set l.d_.toNat (wrs d (l.from_+l.at_+i) Q))):=by
  intro Q
  induction Q with
  | nil =>
    intro i D d hQ hi hp hk hl n hn
    obtain ⟨n,rfl⟩:=Nat.exists_eq_add_one.2 hn
    have hil:P.length≤i:=by
      have:=congrArg List.length hQ
      simp at this;omega
    refine ⟨0,Nat.le_refl _,hk,fun h=>absurd h (Nat.lt_irrefl _),fun _=>?_⟩
    rw [vu,qb9,if_neg (by omega),wrs,qP hp]
  | cons x Q ih =>
    intro i D d hQ hi hp hk hl n hn
    obtain ⟨n,rfl⟩:=Nat.exists_eq_add_one.2 (show 0 < n by omega)
    rw [List.length_cons] at hl hn
    have hx:P[i]?=some x:=by
      have:=congrArg (fun l=>l[0]?) hQ
      simpa using this
    have hil:=(List.getElem?_eq_some_iff.1 hx).1
    have hx64:=hP x (List.mem_of_getElem? hx)
    have hQl:=congrArg List.length hQ
    rw [List.length_drop,List.length_cons] at hQl
    have hQ2:P.drop (i+1)=Q:=by
      have:=congrArg List.tail hQ
      rw [List.tail_drop] at this
      simpa using this
    rw [vu,qb9,if_pos (by omega),zm,hx,qa,h,qa,qr (by omega) (by omega),qa,qr (by omega) (by omega),qa]
    by_cases hd:d.left_=0
    · rw [wd hp hk hd (by omega) (by omega) hx64,qg,if_pos (by decide),jQ h (by decide),qg]
      refine ⟨0,Nat.zero_le _,hk,fun _=>⟨hd,?_⟩,fun h=>by simp at h⟩
      rw [List.take_zero,wrs,qP hp];rfl
    · have hw:Dk N (wr d (l.from_+l.at_+i) x):=hk.wrote (by omega) (by omega) hx64 (by omega)
      rw [jg hp hk hd (by omega) (by omega) hx64,qg,if_neg (by decide),qS i (by omega),qa]
      obtain ⟨j,g1,g2,g3,g4⟩:=ih (i+1) (D.set l.d_.toNat (wr d (l.from_+l.at_+i) x)) (wr d (l.from_+l.at_+i) x) hQ2 (by omega) (qp hp) hw (by simp only [wr,List.length_append,List.length_cons,List.length_nil];omega) n (by omega)
      have he:l.from_+l.at_+((i+1:Nat):Int)=l.from_+l.at_+(i:Int)+1:=by push_cast;omega
      rw [he] at g2 g3 g4
      rw [qD] at g3 g4
      refine ⟨j+1,by rw [List.length_cons];omega,g2,fun hj=>?_,fun hj=>?_⟩
      · rw [List.length_cons] at hj
        exact g3 (by omega)
      · rw [List.length_cons] at hj
        exact g4 (by omega)
theorem qaa {D:List TDisk} {d:TDisk} (h:idx G g=some l) (hf:l.fell_=false) (h0:0≤l.from_) (h1:0≤l.at_) (hp:idx D l.d_=some d) (hk:Dk N d) (hn:l.from_+l.size_≤N) (hE:Ep l.epoch_) (hq0:0≤l.seq_) (hq1:l.seq_≤l.at_) (hat:l.at_≤l.size_) (hl:d.late_.length≤1000) {t:List UInt8} (ht:t.length≤300) :
    (l.size_ < l.at_+(pS l.epoch_ l.seq_ t).length∧M27 g t D G=some (D,G,8)) ∨
    (l.at_+(pS l.epoch_ l.seq_ t).length≤l.size_ ∧
      ((Dk N (wrs d (l.from_+l.at_) (xq l.epoch_ l.seq_ t))∧M27 g t D G=some (D.set l.d_.toNat (wrs d (l.from_+l.at_) (xq l.epoch_ l.seq_ t)),G.set g.toNat (more l (pS l.epoch_ l.seq_ t).length),0)) ∨
       (∃ j,Dk N (wrs d (l.from_+l.at_) ((xq l.epoch_ l.seq_ t).take j))∧(wrs d (l.from_+l.at_) ((xq l.epoch_ l.seq_ t).take j)).left_=0∧M27 g t D G=some (D.set l.d_.toNat (wrs d (l.from_+l.at_) ((xq l.epoch_ l.seq_ t).take j)),G.set g.toNat (qek l),13)))):=by
  have hkn:=hk.n
  have hq:Ep l.seq_:=⟨hq0,by omega⟩
  have hc:=xJ hE hq ht
  have hpl:(pS l.epoch_ l.seq_ t).length=(xq l.epoch_ l.seq_ t).length:=by simp [pS]
  rw [M27,h,qa,if_neg (by simp [hf]),if_neg (by omega),kG hE hq ht,qa,qr (by omega) (by omega),qa,hpl]
  by_cases c:l.size_ < l.at_+(xq l.epoch_ l.seq_ t).length
  · left
    exact ⟨c,if_pos c⟩
  · right
    refine ⟨by omega,?_⟩
    rw [if_neg c]
    obtain ⟨j,g1,g2,g3,g4⟩:=qf0 h h0 h1 hkn (xq l.epoch_ l.seq_ t) (fun x hx=>qaw hE hq hx) (by omega) (xq l.epoch_ l.seq_ t) 0 D d rfl (Nat.zero_le _) hp hk (by omega) big (by rw [qy];omega)
    rw [show l.from_+l.at_+((0:Nat):Int)=l.from_+l.at_ by simp] at g2 g3 g4
    rw [show ((0:Nat):Int)=0 from rfl] at g3 g4
    by_cases hj:j=(xq l.epoch_ l.seq_ t).length
    · left
      subst hj
      rw [List.take_length] at g2
      refine ⟨g2,?_⟩
      rw [g4 rfl,qeX,h,qa,qr (by omega) (by omega),qa,qr (by omega) (by omega),qa,qu h,qa]
      rfl
    · right
      obtain ⟨h5,h6⟩:=g3 (by omega)
      exact ⟨j,g2,h5,h6⟩
theorem qdu {D:List TDisk} {d:TDisk} (h:idx G g=some l) (hf:l.fell_=false) (hp:idx D l.d_=some d) (hk:Dk N d) (hl:d.left_≠0):M28 g D G=some (D.set l.d_.toNat (fl d),G,0):=by
  rw [M28,h,qa,if_neg (by simp [hf]),wB hp hk hl,qg,qhR h hf,qg]
  rfl
theorem qhc {D:List TDisk} {d:TDisk} (h:idx G g=some l) (hf:l.fell_=false) (hp:idx D l.d_=some d) (hl:d.left_=0):M28 g D G=some (D,G.set g.toNat (qek l),13):=by
  rw [M28,h,qa,if_neg (by simp [hf]),wC hp hl,qg,jQ h (by decide),qg]
  rfl
end
end Go.Proofs.YtbjidacdnjojnaaGreatDoor
end
section
namespace Go.Proofs.YtbjidacdnjojnaaGreatDoor
open Go.S
theorem qfc {e q:Int} (he:I64 e) (hq:I64 q):∀ (f:Nat) (B:List UInt8),B.length≤f→f≤500→∀ n,f < n→∀ (l:SS) (m:UInt8),l.length+f≤1000→∃ r,km e q n B l [m]=some r:=by
 intro f
 induction f with
 | zero =>
  intro B hB _ n hn l m hl
  obtain ⟨n,rfl⟩:=Nat.exists_eq_add_one.2 hn
  obtain rfl:B=[]:=List.eq_nil_of_length_eq_zero (by omega)
  rw [km,v7,if_neg (by simp)]
  exact ⟨_,rfl⟩
 | succ f ih =>
  intro B hB hf n hn l m hl'
  obtain ⟨n,rfl⟩:=Nat.exists_eq_add_one.2 (show 0 < n by omega)
  rw [km,v7]
  by_cases h0:B=[]
  ·rw [if_neg (by simp [h0])]
   exact ⟨_,rfl⟩
  ·have hBp:0 < B.length:=List.length_pos_iff.2 h0
   obtain ⟨h,h1,h2⟩:=qgI m he hq
   rw [if_pos h0,h1,qa,qr (by omega) (by omega),qa,qJ (by omega) (by omega) (by omega),qa,qV (by simp;omega),qa,qX (by simp;omega),qa,qJ (by omega) (by omega) (by omega),qa]
   exact ih _ (by simp;omega) (by omega) n (by omega) _ 2 (by simp;omega)
theorem qfi {e q:Int} (he:I64 e) (hq:I64 q) {t:List UInt8} (h:t.length≤300):∃ r,M43 e q t=some r:=by
 have hb:=jw h
 have h1:=jo (s:=t) (by omega)
 rw [M43,qaE (by omega),qg,kL (by omega),qg]
 exact qfc he hq (body t).length (body t) (Nat.le_refl _) (by omega) big (by rw [qy];omega) [] 1 (by simp;omega)
def up (l:TLog):TLog:=⟨l.d_,l.from_,l.size_,l.epoch_+1,l.at_,l.seq_,l.fell_⟩
inductive xl (N:Nat) (d:TDisk) (l:TLog) (x:List UInt8):TDisk→TLog→Int→Prop
 | full:l.epoch_=1000000→xl N d l x d l 8
 | fail0:d.left_=0→l.epoch_ < 1000000→xl N d l x d (qek l) 13
 | fail1:l.epoch_ < 1000000→(wr d l.from_ (aT (l.epoch_+1))).left_=0→Dk N (wr d l.from_ (aT (l.epoch_+1)))→xl N d l x (wr d l.from_ (aT (l.epoch_+1))) (qek l) 13
 | fail2:l.epoch_ < 1000000→(fl (wr d l.from_ (aT (l.epoch_+1)))).left_=0→Dk N (fl (wr d l.from_ (aT (l.epoch_+1))))→xl N d l x (fl (wr d l.from_ (aT (l.epoch_+1)))) (qek (up l)) 13
 | fail3:l.epoch_ < 1000000→(wr (fl (wr d l.from_ (aT (l.epoch_+1)))) (l.from_+1) x).left_=0→Dk N (wr (fl (wr d l.from_ (aT (l.epoch_+1)))) (l.from_+1) x)→xl N d l x (wr (fl (wr d l.from_ (aT (l.epoch_+1)))) (l.from_+1) x) (qek (up l)) 13
 | ok:l.epoch_ < 1000000→Dk N (fl (wr (fl (wr d l.from_ (aT (l.epoch_+1)))) (l.from_+1) x))→xl N d l x (fl (wr (fl (wr d l.from_ (aT (l.epoch_+1)))) (l.from_+1) x)) ⟨l.d_,l.from_,l.size_,l.epoch_+1,2,1,l.fell_⟩ 0
section
variable {G:List TLog} {g:Int} {l:TLog} {N:Nat} {D:List TDisk} {d:TDisk}
theorem qfk (h:idx G g=some l) (hf:l.fell_=false) (h0:0≤l.from_) (hz:2≤l.size_) (hp:idx D l.d_=some d) (hk:Dk N d) (hn:l.from_+l.size_≤N) (hE:Ep l.epoch_) (hl:d.late_.length≤1000) {t x:List UInt8} (ht:t.length≤300) (hx:l.epoch_ < 1000000→xq (l.epoch_+1) 0 t=[x]) :
  ∃ d' l' e,M23 g t D G=some (D.set l.d_.toNat d',G.set g.toNat l',e)∧xl N d l x d' l' e:=by
 have hkn:=hk.n
 have hE0:=hE.1
 have hE1:=hE.2
 have ha:=xR (l.epoch_+1)
 have hq0:Ep (0:Int):=⟨Int.le_refl _,by decide⟩
 have hlg:Lg D G g l d N:=⟨h,hp,hk,h0,hn,hz,hE,by omega⟩
 rw [M23,h,qa,if_neg (by simp [hf]),if_neg (by omega),qr (by omega) (by omega),qa]
 by_cases cE:l.epoch_ < 1000000
 ·have hE':Ep (l.epoch_+1):=⟨by omega,by omega⟩
  have hs:=hx cE
  have hx64:x.length≤64:=qaw (t:=t) hE' hq0 (by rw [hs];simp)
  rw [kG hE' hq0 ht,qa,hs,if_neg (by simp)]
  by_cases c0:d.left_=0
  ·rw [qdC hlg cE c0,ql,if_pos (by decide)]
   exact ⟨d,qek l,13,by rw [qP hp];rfl,.fail0 c0 cE⟩
  ·have hw:=hk.wrote (a:=l.from_) (x:=aT (l.epoch_+1)) (by omega) (by omega) (by omega) (by omega)
   by_cases c1:d.left_=1
   ·rw [qdB hlg cE c1,ql,if_pos (by decide)]
    exact ⟨_,qek l,13,rfl,.fail1 cE (by simp [wr,kf,c1]) hw⟩
   ·have hw2:Dk N (fl (wr d l.from_ (aT (l.epoch_+1)))):=hw.flushed
    have hp2:idx (D.set l.d_.toNat (fl (wr d l.from_ (aT (l.epoch_+1))))) l.d_=some (fl (wr d l.from_ (aT (l.epoch_+1)))):=qp hp
    have hg2:idx (G.set g.toNat (up l)) g=some (up l):=qp h
    have hg3:idx (G.set g.toNat (⟨l.d_,l.from_,l.size_,l.epoch_+1,l.at_,l.seq_,l.fell_⟩:TLog)) g=some (⟨l.d_,l.from_,l.size_,l.epoch_+1,l.at_,l.seq_,l.fell_⟩:TLog):=hg2
    rw [qfn hlg cE c0 c1,ql,if_neg (by decide),hg3,qa]
    simp only
    rw [qr (by omega) (by omega),qa,kG hE' hq0 ht,qa,hs,show idx [x] 0=some x from by rw [show (0:Int)=((0:Nat):Int) from rfl,zm];rfl,qa]
    by_cases c2:(fl (wr d l.from_ (aT (l.epoch_+1)))).left_=0
    ·rw [wd hp2 hw2 c2 (by omega) (by omega) hx64,qg,if_pos (by decide),jQ hg3 (by decide),qg]
     refine ⟨fl (wr d l.from_ (aT (l.epoch_+1))),qek (up l),13,?_,.fail2 cE c2 hw2⟩
     rw [qD];rfl
    ·have hw3:Dk N (wr (fl (wr d l.from_ (aT (l.epoch_+1)))) (l.from_+1) x):=hw2.wrote (a:=l.from_+1) (x:=x) (by omega) (by omega) hx64 (by simp [fl])
     rw [jg hp2 hw2 c2 (by omega) (by omega) hx64,qg,if_neg (by decide),qa,qD]
     rw [show (⟨(fl (wr d l.from_ (aT (l.epoch_+1)))).safe_,(fl (wr d l.from_ (aT (l.epoch_+1)))).seen_.set (l.from_+1).toNat (pad x),(fl (wr d l.from_ (aT (l.epoch_+1)))).late_++[⟨l.from_+1,pad x⟩],kf (fl (wr d l.from_ (aT (l.epoch_+1)))).left_⟩:TDisk)=wr (fl (wr d l.from_ (aT (l.epoch_+1)))) (l.from_+1) x from rfl]
     by_cases c3:(wr (fl (wr d l.from_ (aT (l.epoch_+1)))) (l.from_+1) x).left_=0
     ·rw [wC (qp hp) c3,qg,if_pos (by decide),jQ hg3 (by decide),qg]
      refine ⟨_,qek (up l),13,?_,.fail3 cE c3 hw3⟩
      rw [qD];rfl
     ·rw [wB (qp hp) hw3 c3,qg,if_neg (by decide),qa]
      rw [qu hg3,qa,qD,qD]
      exact ⟨_,_,0,rfl,.ok cE hw3.flushed⟩
 ·obtain ⟨r,hr⟩:=qfi (e:=l.epoch_+1) (q:=0) ⟨by omega,by omega⟩ ⟨by omega,by omega⟩ ht
  rw [hr,qa]
  refine ⟨d,l,8,?_,.full (by omega)⟩
  rw [qP hp,qP h]
  split
  ·rfl
  ·rw [qcB hlg (by omega),ql,if_pos (by decide)]
end
end Go.Proofs.YtbjidacdnjojnaaGreatDoor
end
section
namespace Go.Proofs.YtbjidacdnjojnaaGreatDoor
open Go.S
abbrev Pairs:=List (Int×List UInt8)
def pr (k:Int) (t:List UInt8):List UInt8:=pI k++pT t
def prs (ps:Pairs):List UInt8:=ps.flatMap fun p=>pr p.1 p.2
def xg (v:SS) (ps:Pairs):SS:=ps.foldl (fun v p=>v.set p.1.toNat p.2) v
def zU (p:Int×List UInt8):Prop:=0≤p.1∧p.1 < 20∧p.2.length≤20
theorem xI:∀ (ps:Pairs) (v:SS),(xg v ps).length=v.length
 | [],_=>rfl
 | p :: ps,v=>by
  show (xg (v.set p.1.toNat p.2) ps).length=_
  rw [xI ps];simp
theorem vF {p:Int×List UInt8} (h:zU p):(pr p.1 p.2).length≤23∧2≤(pr p.1 p.2).length:=by
 obtain ⟨h0,h1,h2⟩:=h
 have a1:=qhl (k:=p.1) (by omega)
 have a2:=qiF p.1
 have a3:=jo (s:=p.2) (by omega)
 have a4:0 < (enc 10 p.2.length).length:=wF 9 _
 unfold pr pT at *
 simp only [List.length_append] at *
 omega
theorem wq:∀ {ps:Pairs},(∀ p∈ps,zU p)→(prs ps).length≤23*ps.length
 | [],_=>by simp [prs]
 | p :: ps,h=>by
  have h1:=vF (h p List.mem_cons_self)
  have h2:=wq (ps:=ps) fun q hq=>h q (List.mem_cons_of_mem _ hq)
  have:prs (p :: ps)=pr p.1 p.2++prs ps:=rfl
  rw [this,List.length_append,List.length_cons]
  omega
theorem kK {p:Int×List UInt8} (h:zU p):M26 p.1 p.2=some (pr p.1 p.2):=by
 obtain ⟨h0,h1,h2⟩:=h
 have a1:=z8 p.1
 have a3:=jo (s:=p.2) (by omega)
 rw [M26,qaE (by omega),qg,yD h0 (by omega),qa,qV (by omega),qa];rfl
theorem qdF {p:Int×List UInt8} (h:zU p) {r:List UInt8} (hr:r.length≤10000):M42 (pr p.1 p.2++r)=some (p.1,p.2,r,true):=by
 obtain ⟨h0,h1,h2⟩:=h
 have a1:=z8 p.1
 have a3:=jo (s:=p.2) (by omega)
 have hL:(pI p.1++(pT p.2++r)).length=(pI p.1).length+(pT p.2).length+r.length:=by simp;omega
 rw [pr,List.append_assoc,M42,zN h0 (by omega),ql,if_neg (by simp),if_neg (by omega),qcU,if_neg (by simp),if_neg (by omega),qJ (by omega) (by omega) (by omega),qa]
 have e1:((pI p.1++(pT p.2++r)).take ((pI p.1++(pT p.2++r)).length:Int).toNat).drop ((pI p.1).length:Int).toNat=pT p.2++r:=by
  rw [Int.toNat_natCast,Int.toNat_natCast,List.take_length,List.drop_left]
 have e2:((pI p.1++(pT p.2++r)).take ((pI p.1++(pT p.2++r)).length:Int).toNat).drop (((pI p.1).length:Int)+((pT p.2).length:Int)).toNat=r:=by
  rw [Int.toNat_natCast,List.take_length,show (((pI p.1).length:Int)+((pT p.2).length:Int)).toNat=(pI p.1++pT p.2).length by rw [List.length_append];omega,← List.append_assoc,List.drop_left]
 rw [e1,qhN (by omega) (by omega),ql,if_neg (by simp),if_neg (by omega),qr (by omega) (by omega),qa,qJ (by omega) (by omega) (by omega),qa,e2]
theorem jL {α:Type} {l:List α} {k:Int} (hl:l.length=20) (h0:0≤k) (h1:k < 20):∃ x,za 20 l k=some x∧idx l k=some x:=by
 obtain ⟨x,hx⟩:=qd9 (l:=l) h0 (by omega)
 exact ⟨x,by rw [za,if_pos (by omega)];exact hx,hx⟩
theorem qjM {g i:Int} {w:Bool} {go:Int→Int→Bool→SS→Option (qn×Bool)}:∀ (ps:Pairs) (v:SS),v.length=20→(∀ p∈ps,zU p)→ps.length≤100→∀ n,ps.length < n→ya g w i go n (prs ps) v=kn i go g w (xg v ps):=by
 intro ps
 induction ps with
 | nil =>
  intro v hv hp h1 n hn
  obtain ⟨n,rfl⟩:=Nat.exists_eq_add_one.2 hn
  rw [ya,qca,if_neg (by simp [prs])];rfl
 | cons p ps ih =>
  intro v hv hp h1 n hn
  obtain ⟨n,rfl⟩:=Nat.exists_eq_add_one.2 (show 0 < n by omega)
  have hpp:=hp p List.mem_cons_self
  have hps:=fun q hq=>hp q (List.mem_cons_of_mem _ hq)
  have hl:=wq (ps:=ps) hps
  have h2:=vF hpp
  rw [List.length_cons] at h1 hn
  have e:prs (p :: ps)=pr p.1 p.2++prs ps:=rfl
  obtain ⟨x,hx1,hx2⟩:=jL hv hpp.1 hpp.2.1
  rw [ya,qca,e,if_pos (fun h=>by rw [List.append_eq_nil_iff] at h;rw [h.1] at h2;simp at h2),qdF hpp (by omega),zI,if_pos rfl,hx1,qa,qu hx2,qa]
  exact ih _ (by simp [hv]) hps (by omega) n (by omega)
theorem qjN {g i:Int} {w:Bool} {go:Int→Int→Bool→SS→Option (qn×Bool)}:∀ (ps:Pairs) (v:SS),v.length=20→(∀ p∈ps,zU p)→ps.length≤100→∀ n,ps.length < n→yb g w i go n (prs ps) v=kn i go g w (xg v ps):=by
 intro ps
 induction ps with
 | nil =>
  intro v hv hp h1 n hn
  obtain ⟨n,rfl⟩:=Nat.exists_eq_add_one.2 hn
  rw [yb,qcb,if_neg (by simp [prs])];rfl
 | cons p ps ih =>
  intro v hv hp h1 n hn
  obtain ⟨n,rfl⟩:=Nat.exists_eq_add_one.2 (show 0 < n by omega)
  have hpp:=hp p List.mem_cons_self
  have hps:=fun q hq=>hp q (List.mem_cons_of_mem _ hq)
  have hl:=wq (ps:=ps) hps
  have h2:=vF hpp
  rw [List.length_cons] at h1 hn
  have e:prs (p :: ps)=pr p.1 p.2++prs ps:=rfl
  obtain ⟨x,hx1,hx2⟩:=jL hv hpp.1 hpp.2.1
  rw [yb,qcb,e,if_pos (fun h=>by rw [List.append_eq_nil_iff] at h;rw [h.1] at h2;simp at h2),qdF hpp (by omega),zI,if_pos rfl,hx1,qa,qu hx2,qa]
  exact ih _ (by simp [hv]) hps (by omega) n (by omega)
inductive Img:SS→qn→Prop
 | nil:Img [] ⟨0,true,List.replicate 20 []⟩
 | head {g:Int}:1≤g→g < 4611686018427387904→Img [72 :: pI g] ⟨g,false,List.replicate 20 []⟩
 | val {ts:SS} {g:Int} {v:SS} {ps:Pairs}:Img ts ⟨g,false,v⟩→(∀ p∈ps,zU p)→ps.length≤100→Img (ts++[83 :: prs ps]) ⟨g,false,xg v ps⟩
 | done {ts:SS} {g:Int} {v:SS}:Img ts ⟨g,false,v⟩→Img (ts++[[68]]) ⟨g,true,v⟩
 | put {ts:SS} {g:Int} {v:SS} {ps:Pairs}:Img ts ⟨g,true,v⟩→(∀ p∈ps,zU p)→ps.length≤100→Img (ts++[67 :: prs ps]) ⟨g,true,xg v ps⟩
theorem Img.len {ts:SS} {m:qn} (h:Img ts m):m.values_.length=20:=by
 induction h with
 | nil=>simp
 | head=>simp
 | val _ _ _ ih=>simpa [xI] using ih
 | done _ ih=>exact ih
 | put _ _ _ ih=>simpa [xI] using ih
theorem qbz {b:UInt8} {s:List UInt8}:cut (b :: s) 0 1=some [b]∧cut (b :: s) 1 ((b :: s).length:Int)=some s:=by
 constructor
 ·rw [qJ (by omega) (by omega) (by simp;omega)];simp
 ·rw [qJ (by omega) (by simp;omega) (by omega)];simp
theorem qfH {ts:SS} {m:qn} (h:Img ts m):∀ (rest:SS) (n:Nat),ts.length+rest.length≤1000→ts.length < n→xN (ts++rest) n 0 0 true (List.replicate 20 [])=xN (ts++rest) (n - ts.length) (ts.length:Int) m.gen_ m.whole_ m.values_:=by
 have step:∀ (ts rest:SS) (b:UInt8) (s:List UInt8) (n k:Nat) (g:Int) (w:Bool) (v:SS),ts.length < n→k=n - (ts.length+1)→xN (ts++((b :: s) :: rest)) (n - ts.length) (ts.length:Int) g w v =
   (if [b]=([72]:List UInt8) then if (ts.length:Int)=0 then xp s v g w (ts.length:Int) (xN (ts++((b :: s) :: rest)) k) [b] true else xp s v g w (ts.length:Int) (xN (ts++((b :: s) :: rest)) k) [b] false else xp s v g w (ts.length:Int) (xN (ts++((b :: s) :: rest)) k) [b] false):=by
  intro ts rest b s n k g w v hn hk
  rw [show n - ts.length=k+1 by omega,xN,qcc,if_pos (by simp;omega)]
  have hx:idx (ts++((b :: s) :: rest)) (ts.length:Int)=some (b :: s):=by rw [zm];simp
  rw [hx,qa,if_neg (by simp),qbz.1,qa,qbz.2,qa]
 have next:∀ (ts rest:SS) (r:List UInt8) (n k:Nat) (g:Int) (w:Bool) (v:SS),k=n - (ts.length+1)→ts.length+(r :: rest).length≤1000→kn (ts.length:Int) (xN (ts++(r :: rest)) k) g w v=xN (ts++[r]++rest) (n - (ts++[r]).length) ((ts++[r]).length:Int) g w v:=by
  intro ts rest r n k g w v hk hl
  rw [kn,qS _ (by simp at hl;omega),qa,hk]
  simp
 induction h with
 | nil=>intro rest n _ _;simp
 | @head g h1 h2 =>
  intro rest n hl hn
  have e:=step [] rest 72 (pI g) n (n - 1) 0 true (List.replicate 20 []) (by simp at hn ⊢;omega) (by simp)
  rw [if_pos rfl,if_pos (by simp)] at e
  simp only [List.length_nil,Nat.sub_zero,List.nil_append,Int.natCast_zero] at e
  rw [show ([72 :: pI g]++rest:SS)=(72 :: pI g) :: rest from rfl,e,xp,if_pos rfl,qaj,if_pos rfl]
  have e2:=zN (k:=g) (by omega) h2 []
  rw [List.append_nil] at e2
  rw [e2,ql,if_neg (by simp),if_neg (by omega),qc6,if_neg (by simp),if_neg (by simp)]
  have:=next [] rest (72 :: pI g) n (n - 1) g false (List.replicate 20 []) (by simp) (by simp at hl ⊢;omega)
  simpa using this
 | @val ts g v ps h hp hps ih =>
  intro rest n hl hn
  have hl':ts.length+((83 :: prs ps) :: rest).length≤1000:=by simp at hl ⊢;omega
  have hn':ts.length < n:=by simp at hn;omega
  have hv:=h.len
  rw [List.append_assoc,List.singleton_append,ih _ n hl' hn',step ts rest 83 (prs ps) n _ g false v hn' rfl,if_neg (by decide),xp,if_neg (by simp),qaj,if_neg (by simp),if_neg (by decide),qai,if_neg (by simp),if_pos rfl,if_neg (by simp),qaY,if_pos rfl,qjM ps v hv hp hps big (by rw [qy];omega),next ts rest _ n _ g false _ rfl hl',List.append_assoc,List.singleton_append]
 | @done ts g v h ih =>
  intro rest n hl hn
  have hl':ts.length+(([68]:List UInt8) :: rest).length≤1000:=by simp at hl ⊢;omega
  have hn':ts.length < n:=by simp at hn;omega
  rw [List.append_assoc,List.singleton_append,ih _ n hl' hn',step ts rest 68 [] n _ g false v hn' rfl,if_neg (by decide),xp,if_neg (by simp),qaj,if_neg (by simp),if_pos rfl,if_neg (by simp),qai,if_pos rfl,if_pos rfl,next ts rest _ n _ g true _ rfl hl',List.append_assoc,List.singleton_append]
 | @put ts g v ps h hp hps ih =>
  intro rest n hl hn
  have hl':ts.length+((67 :: prs ps) :: rest).length≤1000:=by simp at hl ⊢;omega
  have hn':ts.length < n:=by simp at hn;omega
  have hv:=h.len
  rw [List.append_assoc,List.singleton_append,ih _ n hl' hn',step ts rest 67 (prs ps) n _ g true v hn' rfl,if_neg (by decide),xp,if_neg (by simp),qaj,if_neg (by simp),if_neg (by decide),qai,if_neg (by simp),if_neg (by decide),qaY,if_neg (by simp),if_pos rfl,if_pos rfl,qc7,if_pos rfl,qjN ps v hv hp hps big (by rw [qy];omega),next ts rest _ n _ g true _ rfl hl',List.append_assoc,List.singleton_append]
theorem qgH {ts:SS} {m:qn} (h:Img ts m) (hl:ts.length≤1000):M22 ts=some (m,true):=by
 have e:=qfH h [] big (by simpa using hl) (by rw [qy];omega)
 rw [List.append_nil] at e
 rw [M22,qs (by simp),qa,e]
 obtain ⟨k,hk⟩:=Nat.exists_eq_add_one.2 (show 0 < big - ts.length by rw [qy];omega)
 rw [hk,xN,qcc,if_neg (by omega),qgn,qs h.len,qa]
theorem Img.take {ts:SS} {m:qn} (h:Img ts m):∀ k,∃ m',Img (ts.take k) m'∧(m'.gen_=0∨m'.gen_=m.gen_)∧(k < ts.length→m.whole_=false→m'.whole_=true→m'.gen_=0):=by
 have key:∀ (ts:SS) (r:List UInt8) (m1 m:qn),m.gen_=m1.gen_→Img (ts++[r]) m→(∀ k,∃ m',Img (ts.take k) m'∧(m'.gen_=0∨m'.gen_=m1.gen_)∧(k < ts.length→m1.whole_=false→m'.whole_=true→m'.gen_=0))→Img ts m1→(m.whole_=false→m1.whole_=false)→∀ k,∃ m',Img ((ts++[r]).take k) m'∧(m'.gen_=0∨m'.gen_=m.gen_)∧(k < (ts++[r]).length→m.whole_=false→m'.whole_=true→m'.gen_=0):=by
  intro ts r m1 m hg h ih h1 hw k
  by_cases c:k≤ts.length
  ·rw [List.take_append_of_le_length c,hg]
   obtain ⟨m',g1,g2,g3⟩:=ih k
   by_cases c2:k < ts.length
   ·exact ⟨m',g1,g2,fun _ h=>g3 c2 (hw h)⟩
   ·obtain rfl:k=ts.length:=by omega
    rw [List.take_length]
    exact ⟨m1,h1,.inr rfl,fun _ h h2=>absurd h2 (by rw [hw h];simp)⟩
  ·rw [List.take_of_length_le (by simp;omega)]
   exact ⟨m,h,.inr rfl,fun hk=>by simp at hk;omega⟩
 induction h with
 | nil=>exact fun k=>⟨_,by rw [List.take_nil];exact .nil,.inl rfl,fun h=>by simp at h⟩
 | @head g h1 h2 =>
  intro k
  cases k with
  | zero=>exact ⟨_,.nil,.inl rfl,fun _ _ _=>rfl⟩
  | succ k=>exact ⟨_,by rw [List.take_succ_cons,List.take_nil];exact .head h1 h2,.inr rfl,fun h=>by simp at h⟩
 | @val ts g v ps h hp hps ih=>exact key ts _ ⟨g,false,v⟩ _ rfl (.val h hp hps) ih h fun _=>rfl
 | @done ts g v h ih=>exact key ts _ ⟨g,false,v⟩ _ rfl (.done h) ih h fun h=>by simp at h
 | @put ts g v ps h hp hps ih=>exact key ts _ ⟨g,true,v⟩ _ rfl (.put h hp hps) ih h fun h=>by simp at h
end Go.Proofs.YtbjidacdnjojnaaGreatDoor
end
section
namespace Go.Proofs.YtbjidacdnjojnaaGreatDoor
open Go.S
def Out (f z:Nat) (w:Twrite):Prop:=w.at_.toNat < f∨f+z≤w.at_.toNat
structure HV (safe:SS) (late:List Twrite) (f z:Nat) (A E:Int) (ts:SS) (m:Int) (R:SS):Prop where
 eA:E≤A
 A1:Ep A
 w:Whole R E ts m
 near:Near m (reg safe f z) R
 s0:(reg safe f z)[0]?=some (pad (aT A))
 n:ts.length≤300
 zz:2≤z
 late:∀ w∈late,Out f z w∨(w.at_.toNat=f∧w.text_=pad (aT (A+1))∧Ep (A+1))∨∃ i,2≤i∧i < 1+(lay E 0 ts).length∧w.at_.toNat=f+i∧R[i]?=some w.text_
theorem qbo {safe:SS} {late:List Twrite} {f z:Nat} {A E m:Int} {ts R:SS} (h:HV safe late f z A E ts m R) (hz:f+z≤safe.length) (keep:List Bool):∃ A' k,Tells (reg (qY keep 0 late safe) f z) A' (ts.take k)∧(reg safe f z=R→(∀ w∈late,Out f z w)→ts.take k=ts):=by
 have hz2:=h.zz
 have hcl:=zO keep late 0 safe
 have hl1:=zt (S:=qY keep 0 late safe) (f:=f) (z:=z) (by omega)
 have hl2:=zt hz
 have hpt:∀ i x,i < z→(reg (qY keep 0 late safe) f z)[i]?=some x→(reg safe f z)[i]?=some x∨∃ w∈late,w.at_.toNat=f+i∧x=w.text_:=by
  intro i x hi hx
  rw [xX hi] at hx ⊢
  exact wH keep late 0 safe (f+i) x hx
 have hgt:∀ i,i < z→∃ x,(reg (qY keep 0 late safe) f z)[i]?=some x:=fun i hi=>⟨_,List.getElem?_eq_getElem (by omega)⟩
 have hlen:=h.near.len
 have hnear:Near m (reg (qY keep 0 late safe) f z) R:=by
  refine ⟨by omega,?_,?_⟩
  ·obtain ⟨x,hx⟩:=hgt 1 (by omega)
   rw [hx,← h.near.h1]
   rcases hpt 1 x (by omega) hx with g | ⟨w,hw,g1,g2⟩
   ·exact g.symm
   ·rcases h.late w hw with g | g | ⟨i,g3,g0,g4,g5⟩
    ·unfold Out at g;omega
    ·omega
    ·omega
  ·intro i x y hi hx hy
   have hiz:i < z:=by
    have:=(List.getElem?_eq_some_iff.1 hx).1
    omega
   rcases hpt i x hiz hx with g | ⟨w,hw,g1,g2⟩
   ·exact h.near.h i x y hi g hy
   ·rcases h.late w hw with g | g | ⟨j,g3,g0,g4,g5⟩
    ·unfold Out at g;omega
    ·omega
    ·obtain rfl:i=j:=by omega
     rw [g5,Option.some.injEq] at hy
     exact .inl (by rw [g2,hy])
 obtain ⟨x,hx⟩:=hgt 0 (by omega)
 obtain ⟨A',hA',hA1,hA2⟩:∃ A',A≤A'∧Ep A'∧x=pad (aT A'):=by
  rcases hpt 0 x (by omega) hx with g | ⟨w,hw,g1,g2⟩
  ·rw [h.s0,Option.some.injEq] at g
   exact ⟨A,Int.le_refl _,h.A1,g.symm⟩
  ·rcases h.late w hw with g | g | ⟨i,g3,g0,g4,g5⟩
   ·unfold Out at g;omega
   ·exact ⟨A+1,by omega,g.2.2,by rw [g2,g.2.1]⟩
   ·omega
 obtain ⟨k,g1,g2⟩:=Tells.of h.w hnear (Int.le_trans h.eA hA') hA1 (by rw [hx,hA2]) h.n
 refine ⟨A',k,g1,fun hq ho=>g2 ?_⟩
 apply List.ext_getElem?
 intro i
 rw [List.getElem?_drop,List.getElem?_drop]
 by_cases hi:1+i < z
 ·obtain ⟨y,hy⟩:=hgt (1+i) hi
  rw [hy]
  rcases hpt (1+i) y hi hy with g | ⟨w,hw,g1,g2⟩
  ·rw [← hq,g]
  ·have:=ho w hw
   unfold Out at this;omega
 ·rw [List.getElem?_eq_none (by omega),List.getElem?_eq_none (by omega)]
theorem yu {R:SS} {E m:Int} {ts:SS} (h:Whole R E ts m) {t:List UInt8} (ht:t.length≤300) (hz:1+(lay E 0 ts).length+(pS E ts.length t).length≤R.length):Whole (put R (1+(lay E 0 ts).length) (pS E ts.length t)) E (ts++[t]) m:=by
 obtain ⟨tail,hb,hd⟩:=h.body
 have hl:=congrArg List.length hb
 rw [List.length_drop,List.length_append] at hl
 refine ⟨h.e,?_,?_,⟨tail.drop (pS E ts.length t).length,?_,fun x hx=>hd x (List.mem_of_mem_drop hx)⟩⟩
 ·rcases h.mm with h0 | ⟨h0,t',us,rfl,h2⟩
  ·exact .inl h0
  ·exact .inr ⟨h0,t',us++[t],rfl,h2⟩
 ·intro u hu
  rcases List.mem_append.1 hu with hu | hu
  ·exact h.t3 u hu
  ·rw [List.mem_singleton.1 hu];exact ht
 ·rw [qiD hz,ky,Int.zero_add,List.append_assoc]
  have e1:R.take (1+(lay E 0 ts).length)=R.take 1++(lay E 0 ts):=by
   rw [List.take_add,hb,List.take_left]
  have e2:R.drop (1+(lay E 0 ts).length+(pS E ts.length t).length)=tail.drop (pS E ts.length t).length:=by
   rw [Nat.add_assoc,← List.drop_drop,hb,← List.drop_drop,List.drop_left]
  have e3:(R.take 1).length=1:=by simp;omega
  rw [e1,e2,List.append_assoc,List.drop_left' e3]
theorem qhz {E:Int} (hE:Ep E) {t:List UInt8} {us:SS} (ht:t.length≤300):1≤(lay E 0 (t :: us)).length:=by
 have:=vH hE (q:=0) ⟨Int.le_refl _,by decide⟩ ht
 rw [lay,List.length_append];omega
theorem HV.put {safe:SS} {late late':List Twrite} {f z:Nat} {A E m:Int} {ts R:SS} (h:HV safe late f z A E ts m R) (hne:ts≠[]) {t:List UInt8} (ht:t.length≤300) (hn:ts.length < 300) (hz:1+(lay E 0 ts).length+(pS E ts.length t).length≤z) (hs:f+z≤safe.length)
  (hl:∀ w∈late',w∈late∨∃ i,w.at_.toNat=f+(1+(lay E 0 ts).length+i)∧(pS E ts.length t)[i]?=some w.text_):HV safe late' f z A E (ts++[t]) m (put R (1+(lay E 0 ts).length) (pS E ts.length t)):=by
 have hl2:=zt hs
 have hlen:=h.near.len
 have hz':1+(lay E 0 ts).length+(pS E ts.length t).length≤R.length:=by omega
 have h2:2≤1+(lay E 0 ts).length:=by
  cases ts with
  | nil=>exact absurd rfl hne
  | cons t0 us =>
   have:=qhz (us:=us) h.w.e (h.w.t3 t0 List.mem_cons_self)
   omega
 obtain ⟨tail,hb,hd⟩:=h.w.body
 have hls:(lay E 0 (ts++[t])).length=(lay E 0 ts).length+(pS E ts.length t).length:=by rw [ky,List.length_append,Int.zero_add]
 refine ⟨h.eA,h.A1,yu h.w ht hz',⟨by rw [kI];exact hlen,?_,?_⟩,h.s0,by simp;omega,h.zz,?_⟩
 ·rw [zL _ _ _ _ hz',if_neg (by omega)];exact h.near.h1
 ·intro i x y hi hx hy
  rw [zL _ _ _ _ hz'] at hy
  split at hy
  ·rename_i hc
   have hiR:i < R.length:=by omega
   have hR:R[i]?=some R[i]:=List.getElem?_eq_getElem hiR
   have hdead:Dead m R[i]:=by
    refine hd _ (List.mem_of_getElem? (i:=i - (1+(lay E 0 ts).length)) ?_)
    have e:=congrArg (fun l=>l[i - 1]?) hb
    simp only [List.getElem?_drop] at e
    rw [show 1+(i - 1)=i by omega,List.getElem?_append_right (by omega),show i - 1 - (lay E 0 ts).length=i - (1+(lay E 0 ts).length) by omega] at e
    rw [← e,hR]
   rcases h.near.h i x _ hi hx hR with g | g
   ·exact .inr (by rw [g];exact hdead)
   ·exact .inr g
  ·exact h.near.h i x y hi hx hy
 ·intro w hw
  rcases hl w hw with g | ⟨i,g1,g2⟩
  ·rcases h.late w g with g | g | ⟨i,g3,g0,g4,g5⟩
   ·exact .inl g
   ·exact .inr (.inl g)
   ·refine .inr (.inr ⟨i,g3,by omega,g4,?_⟩)
    rw [zL _ _ _ _ hz',if_neg (by omega)];exact g5
  ·have hi:=(List.getElem?_eq_some_iff.1 g2).1
   refine .inr (.inr ⟨1+(lay E 0 ts).length+i,by omega,by omega,g1,?_⟩)
   rw [zL _ _ _ _ hz',if_pos ⟨by omega,by omega⟩,show 1+(lay E 0 ts).length+i - (1+(lay E 0 ts).length)=i by omega]
   exact g2
end Go.Proofs.YtbjidacdnjojnaaGreatDoor
end
section
namespace Go.Proofs.YtbjidacdnjojnaaGreatDoor
open Go.S
def Sel (m0 m1:qn) (sure:SS):Prop:=if m1.whole_=true∧(m0.gen_ < m1.gen_∨m0.whole_=false) then m1.values_=sure else m0.whole_=true∧m0.values_=sure
def Rec (C:SS) (z:Nat) (sure:SS):Prop:=∃ A0 A1 t0 t1 m0 m1,Tells (reg C 0 z) A0 t0∧Tells (reg C z z) A1 t1∧Img t0 m0∧Img t1 m1∧t0.length≤300∧t1.length≤300∧Sel m0 m1 sure
def vZ (d:TDisk) (z:Nat) (sure:SS):Prop:=∀ keep,Rec (qY keep 0 d.late_ d.safe_) z sure
def fh (h:Int) (z:Nat):Nat:=if h=0 then 0 else z
theorem qcO (h:Int) (z:Nat):fh h z≤z:=by unfold fh;split <;> omega
theorem wE {h:Int} {z:Nat} (hh:h=0∨h=1):fh h z+z≤fh (1 - h) z∨fh (1 - h) z+z≤fh h z:=by
 rcases hh with rfl | rfl
 ·left;simp [fh]
 ·right;simp [fh]
def xH (half gen:Int) (sure:SS) (m:qn):Prop:=m.whole_=true→m.gen_+half≤gen∨m.values_=sure
theorem qgA {C:SS} {z:Nat} {half gen A A':Int} {sure tc to_:SS} {m:qn} (hh:half=0∨half=1) (hc:Tells (reg C (fh half z) z) A tc) (ic:Img tc ⟨gen,true,sure⟩) (ho:Tells (reg C (fh (1 - half) z) z) A' to_) (io:Img to_ m) (hm:xH half gen sure m) (lc:tc.length≤300) (lo:to_.length≤300):Rec C z sure:=by
 rcases hh with rfl | rfl
 ·refine ⟨A,A',tc,to_,_,_,by simpa [fh] using hc,by simpa [fh] using ho,ic,io,lc,lo,?_⟩
  unfold Sel
  by_cases c:m.whole_=true∧(gen < m.gen_∨(true=false))
  ·rw [if_pos c]
   rcases hm c.1 with h | h
   ·have:=c.2
    simp at this
    omega
   ·exact h
  ·rw [if_neg c];exact ⟨rfl,rfl⟩
 ·refine ⟨A',A,to_,tc,_,_,by simpa [fh] using ho,by simpa [fh] using hc,io,ic,lo,lc,?_⟩
  unfold Sel
  by_cases c:true=true∧(m.gen_ < gen∨m.whole_=false)
  ·rw [if_pos c]
  ·rw [if_neg c]
   have hw:m.whole_=true:=by
    cases h:m.whole_ with
    | true=>rfl
    | false=>exact absurd ⟨rfl,.inr h⟩ c
   refine ⟨hw,?_⟩
   rcases hm hw with h | h
   ·exact absurd ⟨rfl,.inl (by omega)⟩ c
   ·exact h
structure Half (d:TDisk) (l:TLog) (p:Int) (f z:Nat) (ts:SS) (m:Int) (R:SS):Prop where
 v:HV d.safe_ d.late_ f z l.epoch_ l.epoch_ ts m R
 seen:reg d.seen_ f z=R
 a0:R[0]?=some (pad (aT l.epoch_))
 d:l.d_=p
 f:l.from_=f
 z:l.size_=z
 at_:l.at_=((1+(lay l.epoch_ 0 ts).length:Nat):Int)
 q:l.seq_=ts.length
 fell:l.fell_=false
theorem Half.lay_z {d:TDisk} {l:TLog} {p:Int} {f z:Nat} {ts:SS} {m:Int} {R:SS} (h:Half d l p f z ts m R):1+(lay l.epoch_ 0 ts).length≤R.length∧ts.length≤(lay l.epoch_ 0 ts).length:=by
 obtain ⟨tail,hb,hd⟩:=h.v.w.body
 have hl:=congrArg List.length hb
 rw [List.length_drop,List.length_append] at hl
 have hz:1≤R.length:=by
  have:=(List.getElem?_eq_some_iff.1 h.a0).1
  omega
 have hn:=h.v.n
 exact ⟨by omega,qgF h.v.w.e ts 0 (Int.le_refl _) (by omega) h.v.w.t3⟩
theorem y6 {safe:SS} {late:List Twrite} {f z:Nat} (hz:f+z≤safe.length) (h:∀ w∈late,Out f z w) (keep:List Bool):reg (qY keep 0 late safe) f z=reg safe f z:=by
 apply qaB (by rw [zO];exact hz) (zt hz)
 intro i hi
 have hcl:=zO keep late 0 safe
 rw [xX hi]
 obtain ⟨x,hx⟩:∃ x,(qY keep 0 late safe)[f+i]?=some x:=⟨_,List.getElem?_eq_getElem (by omega)⟩
 rcases wH keep late 0 safe (f+i) x hx with g | ⟨w,hw,g1,g2⟩
 ·rw [hx,g]
 ·have:=h w hw
  unfold Out at this;omega
structure Duo (N z:Nat) (D:List TDisk) (G:List TLog) (p:Int) (d:TDisk) (half gc go:Int) (lc lo:TLog) (tc to_:SS) (gen:Int) (sure:SS) (P:qn→Prop):Prop where
 hp:idx D p=some d
 hk:Dk N d
 hn:z+z≤N
 hh:half=0∨half=1
 hgc:idx G gc=some lc
 hgo:idx G go=some lo
 hne:gc≠go
 c:∃ m R,Half d lc p (fh half z) z tc m R∧reg d.safe_ (fh half z) z=R∧∀ w∈d.late_,Out (fh half z) z w
 o:∃ m R,Half d lo p (fh (1 - half) z) z to_ m R
 hll:d.late_.length≤to_.length*6
 ic:Img tc ⟨gen,true,sure⟩
 io:∀ k,∃ m,Img (to_.take k) m∧P m
 g0:0≤gen
 g1:half≤gen
 gE:gen≤lc.epoch_+lo.epoch_
section
variable {N z:Nat} {D:List TDisk} {G:List TLog} {p:Int} {d:TDisk} {half gc go:Int} {lc lo:TLog} {tc to_:SS} {gen:Int} {sure:SS} {P:qn→Prop}
theorem Half.tells {l:TLog} {f:Nat} {ts:SS} {m:Int} {R C:SS} (h:Half d l p f z ts m R) (hC:reg C f z=R):Tells (reg C f z) l.epoch_ ts:=by
 rw [hC]
 obtain ⟨k,h1,h2⟩:=Tells.of h.v.w (Near.refl m R) (Int.le_refl _) h.v.A1 h.a0 h.v.n
 rw [h2 rfl] at h1
 exact h1
theorem Duo.fits (h:Duo N z D G p d half gc go lc lo tc to_ gen sure P) (h':Int):fh h' z+z≤d.safe_.length∧fh h' z+z≤d.seen_.length:=by
 have:=h.hn
 have:=h.hk.s
 have:=h.hk.t
 have:=qcO h' z
 omega
theorem Duo.recAll (h:Duo N z D G p d half gc go lc lo tc to_ gen sure P) (hP:∀ m,P m→xH half gen sure m):vZ d z sure:=by
 intro keep
 obtain ⟨mc,Rc,hc,hc2,hc3⟩:=h.c
 obtain ⟨mo,Ro,ho⟩:=h.o
 have hC:=y6 (h.fits half).1 hc3 keep
 obtain ⟨A',k,g1,_⟩:=qbo ho.v (h.fits (1 - half)).1 keep
 obtain ⟨m,i1,i2⟩:=h.io k
 have hn:=ho.v.n
 exact qgA h.hh (hc.tells (hC.trans hc2)) h.ic g1 i1 (hP m i2) hc.v.n (by simp;omega)
theorem Duo.commit (h:Duo N z D G p d half gc go lc lo tc to_ gen sure P) (hleft:d.left_=-1) {t:List UInt8} (ht:t.length≤300) {sure':SS} (hi:Img (tc++[t]) ⟨gen,true,sure'⟩) :
  M27 gc t D G=some (D,G,8)∨∃ D1 G1 D2 d2 lc2,M27 gc t D G=some (D1,G1,0)∧M28 gc D1 G1=some (D2,G1,0)∧d2.left_=-1∧D2.length=D.length∧G1=G.set gc.toNat lc2∧lc2.d_=lc.d_∧D2=D.set p.toNat d2 ∧
   Duo N z D2 G1 p d2 half gc go lc2 lo (tc++[t]) to_ gen sure' P:=by
 obtain ⟨mc,Rc,hc,hc2,hc3⟩:=h.c
 obtain ⟨mo,Ro,ho⟩:=h.o
 obtain ⟨hc4,hc5⟩:=hc.lay_z
 obtain ⟨ho4,ho5⟩:=ho.lay_z
 have hfc:=h.fits half
 have hfo:=h.fits (1 - half)
 have hap:=wE (z:=z) h.hh
 have hRl:Rc.length=z:=by rw [← hc2];exact zt hfc.1
 have hRol:Ro.length=z:=by rw [← ho.seen];exact zt hfo.2
 have hkn:=h.hk.n
 have hkt:=h.hk.t
 have hn:=h.hn
 have hfle:=qcO half z
 have hpd:idx D lc.d_=some d:=by rw [hc.d];exact h.hp
 have hll:=h.hll
 have hE:=hc.v.w.e
 have e1:=hc.at_
 have e2:=hc.q
 have e3:=hc.f
 have e4:=hc.z
 rcases qaa h.hgc hc.fell (by omega) (by omega) hpd h.hk (by omega) hE (by omega) (by omega) (by omega) (by omega) ht with ⟨_,g⟩ | ⟨hfit,⟨hdk,g⟩ | ⟨j,_,gl,g⟩⟩
 ·exact .inl g
 ·right
  have hpl:pS lc.epoch_ lc.seq_ t=(xq lc.epoch_ lc.seq_ t).map pad:=rfl
  generalize hP':xq lc.epoch_ lc.seq_ t=Q at g hdk hpl
  have hlay:lay lc.epoch_ 0 (tc++[t])=lay lc.epoch_ 0 tc++pS lc.epoch_ lc.seq_ t:=by rw [ky,e2,Int.zero_add]
  have hat:(lc.from_+lc.at_).toNat=fh half z+(1+(lay lc.epoch_ 0 tc).length):=by omega
  have hseen:(wrs d (lc.from_+lc.at_) Q).seen_=put d.seen_ (fh half z+(1+(lay lc.epoch_ 0 tc).length)) (pS lc.epoch_ lc.seq_ t):=by rw [wc Q _ _ (by omega),hat,hpl]
  have hfit':1+(lay lc.epoch_ 0 tc).length+(pS lc.epoch_ lc.seq_ t).length≤z:=by omega
  have hregc:reg (wrs d (lc.from_+lc.at_) Q).seen_ (fh half z) z=put Rc (1+(lay lc.epoch_ 0 tc).length) (pS lc.epoch_ lc.seq_ t):=by rw [hseen,qba hfc.2 hfit',hc.seen]
  have hrego:reg (wrs d (lc.from_+lc.at_) Q).seen_ (fh (1 - half) z) z=Ro:=by rw [hseen,xW hfo.2 (by omega) (by omega),ho.seen]
  have hwl:(wrs d (lc.from_+lc.at_) Q).left_=-1:=by rw [jf Q _ _ (by omega),hleft]
  have hput0:(put Rc (1+(lay lc.epoch_ 0 tc).length) (pS lc.epoch_ lc.seq_ t))[0]?=Rc[0]?:=by rw [zL _ _ _ _ (by omega),if_neg (by omega)]
  have hw:Whole (put Rc (1+(lay lc.epoch_ 0 tc).length) (pS lc.epoch_ lc.seq_ t)) lc.epoch_ (tc++[t]) mc:=by
   have:=yu hc.v.w ht (by rw [← e2];omega)
   rw [← e2] at this
   exact this
  have hpos:1≤(pS lc.epoch_ lc.seq_ t).length:=(vH hE (q:=lc.seq_) ⟨by omega,by omega⟩ ht).2
  refine ⟨_,_,D.set p.toNat (fl (wrs d (lc.from_+lc.at_) Q)),fl (wrs d (lc.from_+lc.at_) Q),more lc (pS lc.epoch_ lc.seq_ t).length,g,?_,?_,by simp,rfl,rfl,rfl,?_⟩
  ·have hs:M28 gc (D.set lc.d_.toNat (wrs d (lc.from_+lc.at_) Q)) (G.set gc.toNat (more lc (pS lc.epoch_ lc.seq_ t).length))=some ((D.set lc.d_.toNat (wrs d (lc.from_+lc.at_) Q)).set lc.d_.toNat (fl (wrs d (lc.from_+lc.at_) Q)),G.set gc.toNat (more lc (pS lc.epoch_ lc.seq_ t).length),0):=qdu (l:=more lc (pS lc.epoch_ lc.seq_ t).length) (qp h.hgc) hc.fell (qp hpd) hdk (by rw [hwl];decide)
   rw [hs,qD,hc.d]
  ·show kf _=_
   rw [hwl];rfl
  ·have hg0:=(qm h.hgc).1
   refine ⟨qp h.hp,hdk.flushed,hn,h.hh,qp h.hgc,kV h.hgo hg0 h.hne,h.hne,⟨mc,_,⟨⟨Int.le_refl _,hE,hw,?_,?_,?_,hc.v.zz,fun w hw=>(by cases hw)⟩,hregc,by rw [hput0];exact hc.a0,hc.d,hc.f,hc.z,?_,?_,hc.fell⟩,hregc,fun w hw=>(by cases hw)⟩,⟨mo,Ro,⟨⟨Int.le_refl _,ho.v.w.e,ho.v.w,?_,?_,ho.v.n,ho.v.zz,fun w hw=>(by cases hw)⟩,hrego,ho.a0,ho.d,ho.f,ho.z,ho.at_,ho.q,ho.fell⟩⟩,by simp [fl],hi,h.io,h.g0,h.g1,h.gE⟩
   ·show Near mc (reg (wrs d (lc.from_+lc.at_) Q).seen_ (fh half z) z) _
    rw [hregc];exact Near.refl _ _
   ·show (reg (wrs d (lc.from_+lc.at_) Q).seen_ (fh half z) z)[0]?=_
    rw [hregc,hput0];exact hc.a0
   ·simp;omega
   ·show lc.at_+((pS lc.epoch_ lc.seq_ t).length:Int)=((1+(lay lc.epoch_ 0 (tc++[t])).length:Nat):Int)
    rw [hlay,List.length_append,e1];push_cast;omega
   ·show lc.seq_+1=_
    rw [e2];simp
   ·show Near mo (reg (wrs d (lc.from_+lc.at_) Q).seen_ (fh (1 - half) z) z) _
    rw [hrego];exact Near.refl _ _
   ·show (reg (wrs d (lc.from_+lc.at_) Q).seen_ (fh (1 - half) z) z)[0]?=_
    rw [hrego];exact ho.a0
 ·rw [jf _ _ _ (by omega),hleft] at gl
  exact absurd gl (by decide)
end
end Go.Proofs.YtbjidacdnjojnaaGreatDoor
end
section
namespace Go.Proofs.YtbjidacdnjojnaaGreatDoor
open Go.S
def OtherS (half gen:Int) (m:qn):Prop:=m.whole_=true→m.gen_+half≤gen
theorem OtherS.ok {half gen:Int} {m:qn} (sure:SS) (h:OtherS half gen m):xH half gen sure m:=fun hw=>.inl (h hw)
theorem wx {ts v:SS} {g half gen:Int} (h:Img ts ⟨g,false,v⟩) (hg:half≤gen):∀ k,∃ m,Img (ts.take k) m∧OtherS half gen m:=by
 intro k
 by_cases c:k < ts.length
 ·obtain ⟨m,h1,h2,h3⟩:=h.take k
  exact ⟨m,h1,fun hw=>by have:=h3 c rfl hw;omega⟩
 ·rw [List.take_of_length_le (by omega)]
  exact ⟨_,h,fun hw=>by simp at hw⟩
theorem qfI {ts v:SS} {g half gen:Int} (h:Img ts ⟨g,false,v⟩) (hg:half≤gen):∀ k,∃ m,Img ((ts++[[68]]).take k) m∧xH half gen v m:=by
 intro k
 by_cases c:k≤ts.length
 ·rw [List.take_append_of_le_length c]
  obtain ⟨m,h1,h2⟩:=wx h hg k
  exact ⟨m,h1,h2.ok v⟩
 ·rw [List.take_of_length_le (by simp;omega)]
  exact ⟨_,.done h,fun _=>.inr rfl⟩
theorem qhF {ts v:SS} {gen half:Int} (h:Img ts ⟨gen,true,v⟩) (hg:0≤gen) (hh:half=0∨half=1):∀ k,∃ m,Img (ts.take k) m∧OtherS (1 - half) (gen+1) m:=by
 intro k
 obtain ⟨m,h1,h2,_⟩:=h.take k
 exact ⟨m,h1,fun _=>by
  simp only at h2
  omega⟩
theorem qbl {E:Int} (hE:Ep E):∀ (ts:SS) (q:Int),0≤q→q+ts.length≤1000000→∀ y∈lay E q ts,Dead (E+1) y
 | [],_,_,_,_,h=>by cases h
 | t :: ts,q,h0,h1,y,h=>by
  rw [List.length_cons] at h1
  rw [lay] at h
  rcases List.mem_append.1 h with h | h
  ·obtain ⟨x,hx,rfl⟩:=List.mem_map.1 h
   exact Dead.sec hE ⟨h0,by omega⟩ hx (by omega)
  ·exact qbl hE ts (q+1) (by omega) (by omega) y h
section
variable {N z:Nat} {D:List TDisk} {G:List TLog} {p:Int} {d:TDisk} {half gc go:Int} {lc lo:TLog} {tc to_:SS} {gen:Int} {sure:SS} {P:qn→Prop}
theorem z6 {safe:SS} {late:List Twrite} {A E m mc:Int} {R Rc:SS} (hh:half=0∨half=1) (hz:z+z≤safe.length) (hc:Half d lc p (fh half z) z tc mc Rc) (hs:reg safe (fh half z) z=Rc) (hl:∀ w∈late,Out (fh half z) z w) (ic:Img tc ⟨gen,true,sure⟩)
  (ho:HV safe late (fh (1 - half) z) z A E to_ m R) (io:∀ k,∃ m,Img (to_.take k) m∧P m) (hP:∀ m,P m→xH half gen sure m) (keep:List Bool):Rec (qY keep 0 late safe) z sure:=by
 have h1:=qcO half z
 have h2:=qcO (1 - half) z
 have hC:=y6 (show fh half z+z≤safe.length by omega) hl keep
 obtain ⟨A',k,g1,_⟩:=qbo ho (by omega) keep
 obtain ⟨m,i1,i2⟩:=io k
 have hn:=ho.n
 exact qgA hh (hc.tells (hC.trans hs)) ic g1 i1 (hP m i2) hc.v.n (by simp;omega)
def Hd (g:Int):List UInt8:=72 :: pI g
theorem qhJ {e g:Int} (he:Ep e):∃ x,xq e 0 (Hd g)=[x]:=by
 have h1:=z8 g
 have hl:(Hd g).length≤11:=by simp [Hd];omega
 have h2:=jo (s:=Hd g) (by omega)
 have h3:=vI (s:=pT (Hd g)) (by omega)
 have h4:=jT he (q:=0) ⟨Int.le_refl _,by decide⟩ (body (Hd g)).length 1 (body (Hd g))
 have h5:=xJ he (q:=0) ⟨Int.le_refl _,by decide⟩ (t:=Hd g) (by omega)
 have h6:(body (Hd g)).length≤57:=by unfold body;omega
 refine List.length_eq_one_iff.1 ?_
 unfold xq at *
 omega
theorem Duo.append (h:Duo N z D G p d half gc go lc lo tc to_ gen sure P) (hne:to_≠[]) {t:List UInt8} (ht:t.length≤300) {P':qn→Prop} (io:∀ k,∃ m,Img ((to_++[t]).take k) m∧P' m) (hP:∀ m,P' m→xH half gen sure m) :
  M27 go t D G=some (D,G,8) ∨
  (∃ d' l',M27 go t D G=some (D.set p.toNat d',G.set go.toNat l',0)∧(d.left_=-1→d'.left_=-1)∧l'.epoch_=lo.epoch_∧l'.d_=p∧Duo N z (D.set p.toNat d') (G.set go.toNat l') p d' half gc go lc l' tc (to_++[t]) gen sure P') ∨
  (∃ d' l',M27 go t D G=some (D.set p.toNat d',G.set go.toNat l',13)∧l'.d_=p∧d'.left_=0∧d.left_≠-1∧Dk N d'∧vZ d' z sure):=by
 obtain ⟨mc,Rc,hc,hc2,hc3⟩:=h.c
 obtain ⟨mo,Ro,ho⟩:=h.o
 obtain ⟨ho4,ho5⟩:=ho.lay_z
 have hfc:=h.fits half
 have hfo:=h.fits (1 - half)
 have hap:=wE (z:=z) h.hh
 have hRol:Ro.length=z:=by rw [← ho.seen];exact zt hfo.2
 have hkn:=h.hk.n
 have hks:=h.hk.s
 have hkt:=h.hk.t
 have hn:=h.hn
 have hfle:=qcO (1 - half) z
 have hpd:idx D lo.d_=some d:=by rw [ho.d];exact h.hp
 have hll:=h.hll
 have hE:=ho.v.w.e
 have e1:=ho.at_
 have e2:=ho.q
 have e3:=ho.f
 have e4:=ho.z
 have hlay:lay lo.epoch_ 0 (to_++[t])=lay lo.epoch_ 0 to_++pS lo.epoch_ lo.seq_ t:=by rw [ky,e2,Int.zero_add]
 have part:∀ (Q:SS),(∃ j,Q=(xq lo.epoch_ lo.seq_ t).take j)→1+(lay lo.epoch_ 0 to_).length+(pS lo.epoch_ lo.seq_ t).length≤z →
   HV (wrs d (lo.from_+lo.at_) Q).safe_ (wrs d (lo.from_+lo.at_) Q).late_ (fh (1 - half) z) z lo.epoch_ lo.epoch_ (to_++[t]) mo (put Ro (1+(lay lo.epoch_ 0 to_).length) (pS lo.epoch_ lo.seq_ t))∧(∀ w∈(wrs d (lo.from_+lo.at_) Q).late_,Out (fh half z) z w):=by
  intro Q hQ hfit
  have hnew:∀ w∈(wrs d (lo.from_+lo.at_) Q).late_,w∈d.late_∨∃ i,w.at_.toNat=fh (1 - half) z+(1+(lay lo.epoch_ 0 to_).length+i)∧(pS lo.epoch_ lo.seq_ t)[i]?=some w.text_:=by
   intro w hw
   rcases qa3 Q d _ w hw with g | ⟨i,g1,g2⟩
   ·exact .inl g
   ·obtain ⟨j,rfl⟩:=hQ
    refine .inr ⟨i,by omega,?_⟩
    rw [List.map_take,List.getElem?_take] at g2
    split at g2
    ·exact g2
    ·simp at g2
  refine ⟨?_,fun w hw=>?_⟩
  ·rw [xe]
   rw [e2] at hfit hnew ⊢
   exact ho.v.put hne ht (by have:=h.o;omega) hfit hfo.1 hnew
  ·rcases hnew w hw with g | ⟨i,g1,g2⟩
   ·exact hc3 w g
   ·have hi:=(List.getElem?_eq_some_iff.1 g2).1
    unfold Out;omega
 rcases qaa h.hgo ho.fell (by omega) (by omega) hpd h.hk (by omega) hE (by omega) (by omega) (by omega) (by omega) ht with ⟨_,g⟩ | ⟨hfit,⟨hdk,g⟩ | ⟨j,hdk,gl,g⟩⟩
 ·exact .inl g
 ·right;left
  have hpl:pS lo.epoch_ lo.seq_ t=(xq lo.epoch_ lo.seq_ t).map pad:=rfl
  have hfit':1+(lay lo.epoch_ 0 to_).length+(pS lo.epoch_ lo.seq_ t).length≤z:=by omega
  obtain ⟨hv,hout⟩:=part (xq lo.epoch_ lo.seq_ t) ⟨_,(List.take_length).symm⟩ hfit'
  have hat:(lo.from_+lo.at_).toNat=fh (1 - half) z+(1+(lay lo.epoch_ 0 to_).length):=by omega
  have hseen:(wrs d (lo.from_+lo.at_) (xq lo.epoch_ lo.seq_ t)).seen_=put d.seen_ (fh (1 - half) z+(1+(lay lo.epoch_ 0 to_).length)) (pS lo.epoch_ lo.seq_ t):=by rw [wc _ _ _ (by omega),hat,hpl]
  have hrego:reg (wrs d (lo.from_+lo.at_) (xq lo.epoch_ lo.seq_ t)).seen_ (fh (1 - half) z) z=put Ro (1+(lay lo.epoch_ 0 to_).length) (pS lo.epoch_ lo.seq_ t):=by rw [hseen,qba hfo.2 hfit',ho.seen]
  have hregc:reg (wrs d (lo.from_+lo.at_) (xq lo.epoch_ lo.seq_ t)).seen_ (fh half z) z=Rc:=by rw [hseen,xW hfc.2 (by omega) (by omega),hc.seen]
  have hput0:(put Ro (1+(lay lo.epoch_ 0 to_).length) (pS lo.epoch_ lo.seq_ t))[0]?=Ro[0]?:=by rw [zL _ _ _ _ (by omega),if_neg (by omega)]
  have hcnt:(xq lo.epoch_ lo.seq_ t).length≤6:=(xJ hE (q:=lo.seq_) ⟨by omega,by omega⟩ ht).1
  have hwc:=yt (xq lo.epoch_ lo.seq_ t) d (lo.from_+lo.at_)
  have hg0:=(qm h.hgo).1
  rw [ho.d] at g
  refine ⟨_,_,g,fun hl=>by rw [jf _ _ _ (by omega),hl],rfl,ho.d,?_⟩
  refine ⟨qp h.hp,hdk,hn,h.hh,kV h.hgc hg0 fun e=>h.hne e.symm,qp h.hgo,h.hne,⟨mc,Rc,⟨⟨hc.v.eA,hc.v.A1,hc.v.w,?_,?_,hc.v.n,hc.v.zz,fun w hw=>.inl (hout w hw)⟩,hregc,hc.a0,hc.d,hc.f,hc.z,hc.at_,hc.q,hc.fell⟩,by rw [xe];exact hc2,hout⟩,⟨mo,_,⟨hv,hrego,by rw [hput0];exact ho.a0,ho.d,ho.f,ho.z,?_,?_,ho.fell⟩⟩,?_,h.ic,io,h.g0,h.g1,h.gE⟩
  ·rw [xe];exact hc.v.near
  ·rw [xe];exact hc.v.s0
  ·show lo.at_+((pS lo.epoch_ lo.seq_ t).length:Int)=((1+(lay lo.epoch_ 0 (to_++[t])).length:Nat):Int)
   rw [hlay,List.length_append,e1];push_cast;omega
  ·show lo.seq_+1=_
   rw [e2];simp
  ·rw [List.length_append,List.length_singleton];omega
 ·right;right
  have hfit':1+(lay lo.epoch_ 0 to_).length+(pS lo.epoch_ lo.seq_ t).length≤z:=by omega
  obtain ⟨hv,hout⟩:=part ((xq lo.epoch_ lo.seq_ t).take j) ⟨j,rfl⟩ hfit'
  rw [ho.d] at g
  refine ⟨_,_,g,ho.d,gl,fun hl=>?_,hdk,fun keep=>z6 h.hh (by rw [xe];omega) hc (by rw [xe];exact hc2) hout h.ic hv io hP keep⟩
  rw [jf _ _ _ (by omega),hl] at gl
  exact absurd gl (by decide)
theorem Duo.turn (h:Duo N z D G p d half gc go lc lo tc to_ gen sure P) (hP:∀ m,P m→xH half gen sure m) (hi:Img to_ ⟨gen+1,true,sure⟩) (hgE:gen+1≤lc.epoch_+lo.epoch_) :
  (∃ d',M28 go D G=some (D.set p.toNat d',G,0)∧(d.left_=-1→d'.left_=-1)∧Duo N z (D.set p.toNat d') G p d' (1 - half) go gc lo lc to_ tc (gen+1) sure (OtherS (1 - half) (gen+1))) ∨
  (∃ l',M28 go D G=some (D,G.set go.toNat l',13)∧l'.d_=p∧d.left_=0∧vZ d z sure):=by
 obtain ⟨mc,Rc,hc,hc2,hc3⟩:=h.c
 obtain ⟨mo,Ro,ho⟩:=h.o
 have hpd:idx D lo.d_=some d:=by rw [ho.d];exact h.hp
 have hg0:=h.g0
 by_cases c:d.left_=0
 ·right
  exact ⟨_,qhc h.hgo ho.fell hpd c,ho.d,c,h.recAll hP⟩
 ·left
  have g:=qdu h.hgo ho.fell hpd h.hk c
  rw [ho.d] at g
  have h11:1 - (1 - half)=half:=by omega
  refine ⟨fl d,g,fun hl=>by show kf _=_;rw [hl];rfl,⟨qp h.hp,h.hk.flushed,h.hn,?_,h.hgo,h.hgc,fun e=>h.hne e.symm,⟨mo,Ro,⟨⟨Int.le_refl _,ho.v.w.e,ho.v.w,?_,?_,ho.v.n,ho.v.zz,fun w hw=>(by cases hw)⟩,ho.seen,ho.a0,ho.d,ho.f,ho.z,ho.at_,ho.q,ho.fell⟩,ho.seen,fun w hw=>(by cases hw)⟩,⟨mc,Rc,?_⟩,by simp [fl],hi,qhF h.ic hg0 h.hh,by omega,?_,by omega⟩⟩
  ·rcases h.hh with rfl | rfl <;> simp
  ·show Near mo (reg d.seen_ _ z) _
   rw [ho.seen];exact Near.refl _ _
  ·show (reg d.seen_ _ z)[0]?=_
   rw [ho.seen];exact ho.a0
  ·rw [h11]
   refine ⟨⟨Int.le_refl _,hc.v.w.e,hc.v.w,?_,?_,hc.v.n,hc.v.zz,fun w hw=>(by cases hw)⟩,hc.seen,hc.a0,hc.d,hc.f,hc.z,hc.at_,hc.q,hc.fell⟩
   ·show Near mc (reg d.seen_ _ z) _
    rw [hc.seen];exact Near.refl _ _
   ·show (reg d.seen_ _ z)[0]?=_
    rw [hc.seen];exact hc.a0
  ·rcases h.hh with rfl | rfl <;> omega
end
end Go.Proofs.YtbjidacdnjojnaaGreatDoor
end
section
namespace Go.Proofs.YtbjidacdnjojnaaGreatDoor
open Go.S
section
variable {N z:Nat} {D:List TDisk} {G:List TLog} {p:Int} {d:TDisk} {half gc go:Int} {lc lo:TLog} {tc to_:SS} {gen:Int} {sure:SS} {P:qn→Prop}
theorem qbr {R:SS} {x:List UInt8} {i:Nat} (h:i≠0):(R.set 0 x)[i]?=R[i]?:=List.getElem?_set_ne (by omega)
theorem HV.raised {R:SS} {E m:Int} {ts:SS} {S:SS} {f:Nat} (hw:Whole R E ts m) (hn:ts.length≤300) (hz:2≤z) (hE:Ep (E+1)) (hS:reg S f z=R.set 0 (pad (aT (E+1)))) (hR:R.length=z):HV S [] f z (E+1) E ts m R:=by
  have hw0:=hw.e.1
  refine ⟨by omega,hE,hw,?_,?_,hn,hz,fun w hw=>(by cases hw)⟩
  · rw [hS]
    refine ⟨by simp,qbr (by omega),fun i x y hi hx hy=>?_⟩
    rw [qbr (by omega)] at hx
    exact .inl (Option.some.inj (hx.symm.trans hy))
  · rw [hS,List.getElem?_set_self (by omega)]
theorem Whole.fresh {R:SS} {E m:Int} {ts:SS} (hw:Whole R E ts m) (hn:ts.length≤300) (hz:2≤R.length) (hE:Ep (E+1)) {g:Int} {x y:List UInt8} (hx:xq (E+1) 0 (Hd g)=[x]):Whole ((R.set 0 y).set 1 (pad x)) (E+1) [Hd g] (E+1):=by
  obtain ⟨tail,hb,hd⟩:=hw.body
  have hp:pS (E+1) 0 (Hd g)=[pad x]:=by rw [pS,hx];rfl
  refine ⟨hE,.inr ⟨rfl,_,_,rfl,by rw [hp];rfl⟩,fun t ht=>?_,⟨R.drop 2,?_,?_⟩⟩
  · rw [List.mem_singleton.1 ht]
    have:=z8 g
    simp [Hd];omega
  · rw [lay,hp]
    apply List.ext_getElem?
    intro i
    rw [List.getElem?_drop]
    cases i with
    | zero =>
      rw [Nat.add_zero,List.getElem?_set_self (by simp;omega)]
      simp [lay]
    | succ i =>
      rw [List.getElem?_set_ne (by omega),List.getElem?_set_ne (by omega)]
      simp only [lay,List.append_nil,List.singleton_append,List.getElem?_cons_succ,List.getElem?_drop]
      rw [show 1+(i+1)=2+i by omega]
  · intro u hu
    have e:R.drop 2=(lay E 0 ts++tail).drop 1:=by rw [← hb,List.drop_drop]
    rw [e] at hu
    have hE0:=hw.e.1
    rcases List.mem_append.1 (List.mem_of_mem_drop hu) with h | h
    · exact qbl hw.e ts 0 (Int.le_refl _) (by omega) u h
    · refine (hd u h).mono ?_
      rcases hw.mm with h | ⟨h,_⟩ <;> omega
theorem Duo.reset (h:Duo N z D G p d half gc go lc lo tc to_ gen sure P) (hP:∀ m,P m→xH half gen sure m) :
    ∃ d' l' e,M23 go (Hd (gen+1)) D G=some (D.set p.toNat d',G.set go.toNat l',e)∧l'.d_=p ∧
      ((e=8∧d'=d∧l'=lo)∨(e=13∧d'.left_=0∧d.left_≠-1∧Dk N d'∧vZ d' z sure) ∨
       (e=0∧(d.left_=-1→d'.left_=-1)∧l'.epoch_=lo.epoch_+1∧Duo N z (D.set p.toNat d') (G.set go.toNat l') p d' half gc go lc l' tc [Hd (gen+1)] gen sure (OtherS half gen))):=by
  obtain ⟨mc,Rc,hc,hc2,hc3⟩:=h.c
  obtain ⟨mo,Ro,ho⟩:=h.o
  obtain ⟨ho4,ho5⟩:=ho.lay_z
  have hfc:=h.fits half
  have hfo:=h.fits (1 - half)
  have hap:=wE (z:=z) h.hh
  have hRol:Ro.length=z:=by rw [← ho.seen];exact zt hfo.2
  have hkn:=h.hk.n
  have hks:=h.hk.s
  have hkt:=h.hk.t
  have hn:=h.hn
  have hfle:=qcO (1 - half) z
  have hpd:idx D lo.d_=some d:=by rw [ho.d];exact h.hp
  have hll:=h.hll
  have hE:=ho.v.w.e
  have hE0:=hE.1
  have hz2:=ho.v.zz
  have e3:=ho.f
  have e4:=ho.z
  have hg0:=h.g0
  have hHd:(Hd (gen+1)).length≤300:=by
    have:=z8 (gen+1)
    simp [Hd];omega
  obtain ⟨x,hx⟩:∃ x,lo.epoch_ < 1000000→xq (lo.epoch_+1) 0 (Hd (gen+1))=[x]:=by
    by_cases c:lo.epoch_ < 1000000
    · obtain ⟨x,hx⟩:=qhJ (g:=gen+1) (e:=lo.epoch_+1) ⟨by omega,by omega⟩
      exact ⟨x,fun _=>hx⟩
    · exact ⟨[],fun h=>absurd h c⟩
  obtain ⟨d',l',e,g,ro⟩:=qfk h.hgo ho.fell (by omega) (by omega) hpd h.hk (by omega) hE (by omega) hHd hx
  rw [ho.d] at g
  have hgo0:=(qm h.hgo).1
  have hfn:lo.from_.toNat=fh (1 - half) z:=by omega
  have hfn1:(lo.from_+1).toNat=fh (1 - half) z+1:=by omega
  have hs1:∀ y,reg (d.seen_.set (fh (1 - half) z) y) (fh (1 - half) z) z=Ro.set 0 y:=fun y=>by rw [qaA hfo.2 (by omega),ho.seen]
  have hs2:∀ y,reg (d.seen_.set (fh (1 - half) z) y) (fh half z) z=Rc:=fun y=>by
    have:=xW (P:=[y]) (a:=fh (1 - half) z) hfc.2 (by simp;omega) (by simp;omega)
    rw [put,put] at this
    rw [this,hc.seen]
  have hs3:∀ y u,reg ((d.seen_.set (fh (1 - half) z) y).set (fh (1 - half) z+1) u) (fh (1 - half) z) z=(Ro.set 0 y).set 1 u:=fun y u=>by
    have:=qba (S:=d.seen_.set (fh (1 - half) z) y) (P:=[u]) (f:=fh (1 - half) z) (z:=z) (i:=1) (by simp;omega) (by simp;omega)
    rw [put,put,put,put,hs1] at this
    exact this
  have hs4:∀ y u,reg ((d.seen_.set (fh (1 - half) z) y).set (fh (1 - half) z+1) u) (fh half z) z=Rc:=fun y u=>by
    have:=xW (S:=d.seen_.set (fh (1 - half) z) y) (P:=[u]) (a:=fh (1 - half) z+1) (f:=fh half z) (z:=z) (by simp;omega) (by simp;omega) (by simp;omega)
    rw [put,put,hs2] at this
    exact this
  have hio:∀ k,∃ m,Img (([Hd (gen+1)]:SS).take k) m∧OtherS half gen m:=by
    have hE':=hc.v.A1.2
    have hEo:=ho.v.A1.2
    have:=h.gE
    exact wx (.head (by omega) (by omega)) h.g1
  refine ⟨d',l',e,g,?_,?_⟩
  · cases ro <;> first | exact ho.d | rfl
  cases ro with
  | full _=>exact .inl ⟨rfl,rfl,rfl⟩
  | fail0 h0 _=>exact .inr (.inl ⟨rfl,h0,by omega,h.hk,h.recAll hP⟩)
  | fail1 hlt h0 hdk =>
    refine .inr (.inl ⟨rfl,h0,fun hl=>?_,hdk,fun keep=>?_⟩)
    · simp [wr,kf,hl] at h0
    · refine z6 h.hh (by show z+z≤d.safe_.length;omega) hc hc2 ?_ h.ic ⟨ho.v.eA,ho.v.A1,ho.v.w,ho.v.near,ho.v.s0,ho.v.n,ho.v.zz,?_⟩ h.io hP keep
      · intro w hw
        rcases List.mem_append.1 hw with hw | hw
        · exact hc3 w hw
        · rw [List.mem_singleton.1 hw]
          show lo.from_.toNat < _∨_≤lo.from_.toNat
          omega
      · intro w hw
        rcases List.mem_append.1 hw with hw | hw
        · exact ho.v.late w hw
        · rw [List.mem_singleton.1 hw]
          exact .inr (.inl ⟨hfn,rfl,⟨by omega,by omega⟩⟩)
  | fail2 hlt h0 hdk =>
    refine .inr (.inl ⟨rfl,h0,fun hl=>?_,hdk,fun keep=>?_⟩)
    · simp [fl,wr,kf,hl] at h0
    · have hv:=HV.raised (f:=fh (1 - half) z) (S:=d.seen_.set (fh (1 - half) z) (pad (aT (lo.epoch_+1)))) ho.v.w ho.v.n hz2 ⟨by omega,by omega⟩ (hs1 _) hRol
      rw [← hfn] at hv
      rw [← hfn] at hs2
      exact z6 h.hh (by show z+z≤(d.seen_.set _ _).length;simp;omega) hc (hs2 _) (fun w hw=>(by cases hw)) h.ic (by rw [← hfn];exact hv) h.io hP keep
  | fail3 hlt h0 hdk =>
    have hE':Ep (lo.epoch_+1):=⟨by omega,by omega⟩
    have hxs:=hx hlt
    refine .inr (.inl ⟨rfl,h0,fun hl=>?_,hdk,fun keep=>?_⟩)
    · simp [fl,wr,kf,hl] at h0
    · show Rec (qY keep 0 ([]++[⟨lo.from_+1,pad x⟩]) (d.seen_.set lo.from_.toNat (pad (aT (lo.epoch_+1))))) z sure
      rw [List.nil_append,qY,qY,hfn]
      simp only [hfn1]
      split
      · have hwh:=Whole.fresh (y:=pad (aT (lo.epoch_+1))) ho.v.w ho.v.n (by omega) hE' hxs
        have:=z6 (safe:=(d.seen_.set (fh (1 - half) z) (pad (aT (lo.epoch_+1)))).set (fh (1 - half) z+1) (pad x)) (late:=[]) (A:=lo.epoch_+1) (E:=lo.epoch_+1) (to_:=[Hd (gen+1)]) (m:=lo.epoch_+1) h.hh (by simp;omega) hc (hs4 _ _) (fun w hw=>(by cases hw)) h.ic ⟨Int.le_refl _,hE',hwh,by rw [hs3];exact Near.refl _ _,by rw [hs3,List.getElem?_set_ne (by omega),List.getElem?_set_self (by omega)],by simp,hz2,fun w hw=>(by cases hw)⟩ hio (fun m hm=>hm.ok sure) []
        rw [qY] at this
        exact this
      · have hv:=HV.raised (f:=fh (1 - half) z) (S:=d.seen_.set (fh (1 - half) z) (pad (aT (lo.epoch_+1)))) ho.v.w ho.v.n hz2 ⟨by omega,by omega⟩ (hs1 _) hRol
        have:=z6 h.hh (by simp;omega) hc (hs2 _) (fun w hw=>(by cases hw)) h.ic hv h.io hP []
        rw [qY] at this
        exact this
  | ok hlt hdk =>
    have hE':Ep (lo.epoch_+1):=⟨by omega,by omega⟩
    have hxs:=hx hlt
    have hwh:=Whole.fresh (y:=pad (aT (lo.epoch_+1))) ho.v.w ho.v.n (by omega) hE' hxs
    have hse:(fl (wr (fl (wr d lo.from_ (aT (lo.epoch_+1)))) (lo.from_+1) x)).seen_=(d.seen_.set (fh (1 - half) z) (pad (aT (lo.epoch_+1)))).set (fh (1 - half) z+1) (pad x):=by
      show (d.seen_.set lo.from_.toNat _).set (lo.from_+1).toNat _=_
      rw [hfn,hfn1]
    have hsa:(fl (wr (fl (wr d lo.from_ (aT (lo.epoch_+1)))) (lo.from_+1) x)).safe_=(d.seen_.set (fh (1 - half) z) (pad (aT (lo.epoch_+1)))).set (fh (1 - half) z+1) (pad x):=hse
    have hlate:(fl (wr (fl (wr d lo.from_ (aT (lo.epoch_+1)))) (lo.from_+1) x)).late_=[]:=rfl
    have hleft:d.left_=-1→(fl (wr (fl (wr d lo.from_ (aT (lo.epoch_+1)))) (lo.from_+1) x)).left_=-1:=fun hl=>by simp [fl,wr,kf,hl]
    have hp:pS (lo.epoch_+1) 0 (Hd (gen+1))=[pad x]:=by rw [pS,hxs];rfl
    have hR0:((Ro.set 0 (pad (aT (lo.epoch_+1)))).set 1 (pad x))[0]?=some (pad (aT (lo.epoch_+1))):=by rw [List.getElem?_set_ne (by omega),List.getElem?_set_self (by omega)]
    have hE2:=hc.v.A1.2
    generalize hd':fl (wr (fl (wr d lo.from_ (aT (lo.epoch_+1)))) (lo.from_+1) x)=d' at hse hsa hlate hdk hleft
    have hno:∀ (P:Twrite→Prop),∀ w∈d'.late_,P w:=fun P w hw=>by rw [hlate] at hw;cases hw
    refine .inr (.inr ⟨rfl,hleft,rfl,⟨qp h.hp,hdk,hn,h.hh,kV h.hgc hgo0 fun e=>h.hne e.symm,qp h.hgo,h.hne,⟨mc,Rc,⟨⟨hc.v.eA,hc.v.A1,hc.v.w,?_,?_,hc.v.n,hc.v.zz,hno _⟩,?_,hc.a0,hc.d,hc.f,hc.z,hc.at_,hc.q,hc.fell⟩,?_,hno _⟩,⟨lo.epoch_+1,_,⟨⟨Int.le_refl _,hE',hwh,?_,?_,by simp,hz2,hno _⟩,?_,hR0,ho.d,ho.f,ho.z,?_,?_,ho.fell⟩⟩,by rw [hlate];simp,h.ic,hio,h.g0,h.g1,?_⟩⟩)
    · rw [hsa,hs4];exact Near.refl _ _
    · rw [hsa,hs4];exact hc.a0
    · rw [hse,hs4]
    · rw [hsa,hs4]
    · rw [hsa,hs3];exact Near.refl _ _
    · rw [hsa,hs3];exact hR0
    · rw [hse,hs3]
    · show (2:Int)=((1+(lay (lo.epoch_+1) 0 [Hd (gen+1)]).length:Nat):Int)
      simp [lay,hp]
    · simp
    · show gen≤lc.epoch_+(lo.epoch_+1)
      have:=h.gE
      omega
end
end Go.Proofs.YtbjidacdnjojnaaGreatDoor
end
