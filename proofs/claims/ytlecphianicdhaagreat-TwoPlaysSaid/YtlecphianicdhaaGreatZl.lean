import Derived.Test.YtlecphianicdhaaGreatTwM
import Derived.Test.YtlecphianicdhaaGreatZb
section
namespace Go.Proofs.YtlecphianicdhaaGreat
open Go.S
set_option linter.unusedVariables false
set_option linter.unusedSimpArgs false
def ended (p:List TOp) (t:Int):Bool:=p.any fun o=>decide (o.Tx=t) && decide (2 < o.Kind)
theorem ended_snoc (p:List TOp) (o:TOp) (t:Int):ended (p++[o]) t=(ended p t || (decide (o.Tx=t) && decide (2 < o.Kind))):=by simp [ended]
theorem runRef2 (p:List TOp) (o:TOp) (gx1:Int) (go1:Int→Option Int) (hp:p.length≤200):∀ (r i:Nat),i+r=p.length→∀ n,r < n →
  M5L2 p o gx1 go1 n (i:Int)=if ended (p.drop i) o.Tx=true then some 4 else M5K3 gx1 go1:=by
 intro r
 induction r with
 | zero =>
  intro i hi n hn
  obtain ⟨n,rfl⟩:=dec n hn
  rw [M5L2,M5L2B,if_neg (by omega),List.drop_eq_nil_of_le (by omega)]
  simp [ended]
 | succ r ih =>
  intro i hi n hn
  obtain ⟨n,rfl⟩:=dec n (by omega)
  have h1:i < p.length:=by omega
  have e:ended (p.drop i) o.Tx=((decide (p[i].Tx=o.Tx) && decide (2 < p[i].Kind)) || ended (p.drop (i+1)) o.Tx):=by rw [drop_cons h1];rfl
  rw [M5L2,M5L2B,if_pos (by omega),idx_ok h1,bind1_some,isucc i (by omega),bind1_some,ih (i+1) (by omega) n (by omega),e]
  by_cases c1:p[i].Tx=o.Tx
  ·by_cases c2:2 < p[i].Kind
   ·simp [c1,c2]
   ·simp [c1,c2]
  ·simp [c1]
structure Fine (p:List TOp) (o:TOp):Prop where
 t0:0≤o.Tx
 t1:o.Tx < 12
 i0:0≤o.Item
 i1:o.Item < 20
 k0:1≤o.Kind
 k1:o.Kind≤4
 item:2 < o.Kind→o.Item=0
 open':ended p o.Tx=false
structure GoodR (l:List TOp):Prop where
 len:l.length≤200
 fine:∀ i (h:i < l.length),Fine (l.take i) l[i]
theorem runLoop (l:List TOp) (hl:l.length≤200):∀ (r i:Nat),i+r=l.length→(∀ j (h:j < l.length),j < i→Fine (l.take j) l[j])→∀ n n',r < n→r < n' →
  ∃ e,M5L1 l n (i:Int)=some e∧M8L1 l n' (i:Int) (tab 12 (ended (l.take i)))=some e∧(e=0→∀ j (h:j < l.length),Fine (l.take j) l[j]):=by
 intro r
 induction r with
 | zero =>
  intro i hi hf n n' hn hn'
  obtain ⟨n,rfl⟩:=dec n hn
  obtain ⟨n',rfl⟩:=dec n' hn'
  rw [M5L1,M5L1B,M8L1,M8L1B,if_neg (by omega),if_neg (by omega)]
  exact ⟨0,rfl,rfl,fun _ j h=>hf j h (by omega)⟩
 | succ r ih =>
  intro i hi hf n n' hn hn'
  obtain ⟨n,rfl⟩:=dec n (by omega)
  obtain ⟨n',rfl⟩:=dec n' (by omega)
  have h1:i < l.length:=by omega
  rw [M5L1,M5L1B,M8L1,M8L1B,if_pos (by omega),if_pos (by omega),idx_ok h1,bind1_some,bind1_some]
  generalize ho:l[i]=o
  have hbad:∀ (A B:Option Int),(∃ e,A=some e∧B=some e∧e≠0)→∃ e,A=some e∧B=some e∧(e=0→∀ j (h:j < l.length),Fine (l.take j) l[j]):=by
   rintro A B ⟨e,h1,h2,h3⟩
   exact ⟨e,h1,h2,fun h=>absurd h h3⟩
  by_cases c1:o.Tx < 0
  ·rw [if_pos c1,if_pos c1];exact hbad _ _ ⟨1,rfl,rfl,by decide⟩
  rw [if_neg c1,if_neg c1]
  by_cases c2:11 < o.Tx
  ·rw [if_pos c2,if_pos (by omega)];exact hbad _ _ ⟨1,rfl,rfl,by decide⟩
  rw [if_neg c2,if_neg (by omega),M5K8,M8K7,if_neg ff,if_neg ff]
  by_cases c3:o.Item < 0
  ·rw [if_pos c3,if_pos c3];exact hbad _ _ ⟨1,rfl,rfl,by decide⟩
  rw [if_neg c3,if_neg c3]
  by_cases c4:19 < o.Item
  ·rw [if_pos c4,if_pos (by omega)];exact hbad _ _ ⟨1,rfl,rfl,by decide⟩
  rw [if_neg c4,if_neg (by omega),M5K4,M8K4]
  have hK5:o.Kind≤4→1≤o.Kind→(2 < o.Kind→o.Item=0)→∃ e,M5K5 l (i:Int) o (M5L1 l n)=some e∧M8K5 (tab 12 (ended (l.take i))) o (i:Int) (M8L1 l n')=some e∧(e=0→∀ j (h:j < l.length),Fine (l.take j) l[j]):=by
   intro hk1 hk0 hit
   have h2:=runRef2 (l.take i) o (i:Int) (M5L1 l n) (by rw [List.length_take];omega) (l.take i).length 0 (by omega) big (lt_big (by rw [List.length_take];omega))
   rw [show ((0:Nat):Int)=0 from rfl,List.drop_zero] at h2
   rw [M5K5,cut_take l i (by omega),bind1_some,h2,M8K5,tab_idxA (by omega) (by omega),bind1_some]
   by_cases c5:ended (l.take i) o.Tx=true
   ·rw [if_pos c5,if_pos c5];exact hbad _ _ ⟨4,rfl,rfl,by decide⟩
   ·rw [if_neg c5,if_neg c5,bind1_some,tab_upd _ (by omega) (by omega),bind1_some,M5K3,M8K3,isucc i (by omega),bind1_some,bind1_some]
    have et:(tab 12 fun j=>if j=o.Tx then decide (3≤o.Kind) else ended (l.take i) j)=tab 12 (ended (l.take (i+1))):=by
     apply tab_ext
     intro j _ _
     rw [take_snoc h1,ended_snoc,ho]
     by_cases hj:j=o.Tx
     ·subst hj
      have c5':ended (l.take i) o.Tx=false:=by simpa using c5
      rw [if_pos rfl,c5',Bool.false_or,decide_eq_true rfl,Bool.true_and,decide_eq_decide]
      omega
     ·rw [if_neg hj]
      simp [Ne.symm hj]
    rw [et]
    refine ih (i+1) (by omega) (fun j h hj=>?_) n n' (by omega) (by omega)
    by_cases hji:j=i
    ·subst hji
     rw [ho]
     exact ⟨by omega,by omega,by omega,by omega,hk0,hk1,hit,by simpa using c5⟩
    ·exact hf j h (by omega)
  by_cases c5:o.Kind=1
  ·rw [if_neg (by omega),if_neg (by omega),if_pos c5,M5K6,if_neg ff,if_neg (by omega),M5K7,if_neg ff,M8K6,if_pos rfl]
   exact hK5 (by omega) (by omega) (by omega)
  by_cases c6:o.Kind=2
  ·rw [if_neg (by omega),if_neg (by omega),if_neg c5,if_pos c6,M5K6,if_neg ff,if_neg (by omega),M5K7,if_neg ff,M8K6,if_pos rfl]
   exact hK5 (by omega) (by omega) (by omega)
  rw [if_neg c5,if_neg c6,M8K6,if_neg ff]
  by_cases c7:o.Kind=3
  ·rw [if_neg (by omega),if_neg (by omega),if_pos c7,M5K6,if_neg ff,if_pos (by omega)]
   by_cases c9:o.Item≠0
   ·rw [if_pos c9,if_pos c9];exact hbad _ _ ⟨4,rfl,rfl,by decide⟩
   ·rw [if_neg c9,if_neg c9,M5K7,if_neg ff]
    exact hK5 (by omega) (by omega) (by omega)
  by_cases c8:o.Kind=4
  ·rw [if_neg (by omega),if_neg (by omega),if_neg c7,if_pos c8,M5K6,if_neg ff,if_pos (by omega)]
   by_cases c9:o.Item≠0
   ·rw [if_pos c9,if_pos c9];exact hbad _ _ ⟨4,rfl,rfl,by decide⟩
   ·rw [if_neg c9,if_neg c9,M5K7,if_neg ff]
    exact hK5 (by omega) (by omega) (by omega)
  rw [if_neg c7,if_neg c8]
  by_cases c9:o.Kind < 1
  ·rw [if_pos c9];exact hbad _ _ ⟨4,rfl,rfl,by decide⟩
  ·rw [if_neg c9,if_pos (by omega)];exact hbad _ _ ⟨4,rfl,rfl,by decide⟩
theorem run_eq (l:List TOp):∃ e,M5 l=some e∧M8 l=some e∧(e=0→GoodR l):=by
 rw [M5,M8]
 by_cases h:200 < l.length
 ·exact ⟨2,by rw [if_pos (by omega)],by rw [if_pos (by omega)],by omega⟩
 ·rw [if_neg (by omega),if_neg (by omega),M5K1,M8K1]
  obtain ⟨e,h1,h2,h3⟩:=runLoop l (by omega) l.length 0 (by omega) (by omega) big big (lt_big (by omega)) (lt_big (by omega))
  refine ⟨e,h1,?_,fun h0=>⟨by omega,h3 h0⟩⟩
  rw [tab_repl]
  exact h2
end Go.Proofs.YtlecphianicdhaaGreat
end
section
namespace Go.S
set_option linter.unusedVariables false
set_option linter.unusedSimpArgs false
section
variable {α σ ρ:Type}
def orGo (o:Option (Option ρ)) (k:Option ρ):Option ρ:=match o with
 | some e=>e
 | none=>k
@[simp] theorem orGo_some (e k:Option ρ):orGo (some e) k=e:=rfl
@[simp] theorem orGo_none (k:Option ρ):orGo none k=k:=rfl
def sumGo (o:Option ρ ⊕ σ) (k:σ→Option ρ):Option ρ:=match o with
 | .inl e=>e
 | .inr s=>k s
@[simp] theorem sumGo_inl (e:Option ρ) (k:σ→Option ρ):sumGo (.inl e) k=e:=rfl
@[simp] theorem sumGo_inr (s:σ) (k:σ→Option ρ):sumGo (.inr s) k=k s:=rfl
def scanR (X:Nat→α→σ→Option ρ ⊕ σ) (E:σ→Option ρ):Nat→List α→σ→Option ρ
 | _,[],s=>E s
 | i,x :: l,s=>match X i x s with
  | .inl e=>e
  | .inr s'=>scanR X E (i+1) l s'
theorem scan {F:Nat→Int→σ→Option ρ} {l:List α} {X:Nat→α→σ→Option ρ ⊕ σ} {E:σ→Option ρ} (Inv:Nat→σ→Prop)
  (hend:∀ n s,Inv l.length s→F (n+1) (l.length:Nat) s=E s)
  (hstep:∀ n i s (h:i < l.length),Inv i s→F (n+1) (i:Nat) s=sumGo (X i l[i] s) fun s'=>F n ((i+1:Nat):Int) s')
  (hinv:∀ i s s' (h:i < l.length),Inv i s→X i l[i] s=.inr s'→Inv (i+1) s') :
  ∀ (r i:Nat),i+r=l.length→∀ n s,r < n→Inv i s→F n (i:Nat) s=scanR X E i (l.drop i) s:=by
 intro r
 induction r with
 | zero =>
  intro i hi n s hn hI
  obtain ⟨n,rfl⟩:=dec n hn
  obtain rfl:i=l.length:=by omega
  rw [hend n s hI,List.drop_eq_nil_of_le (Nat.le_refl _)]
  rfl
 | succ r ih =>
  intro i hi n s hn hI
  obtain ⟨n,rfl⟩:=dec n (by omega)
  have h1:i < l.length:=by omega
  rw [hstep n i s h1 hI,drop_cons h1,scanR]
  cases hx:X i l[i] s with
  | inl e=>rfl
  | inr s'=>exact ih (i+1) (by omega) n s' (by omega) (hinv i s s' h1 hI hx)
def scanX (X:Nat→α→Option (Option ρ)) (E:Option ρ):Nat→List α→Option ρ
 | _,[]=>E
 | i,x :: l=>match X i x with
  | some e=>e
  | none=>scanX X E (i+1) l
theorem scan0 {F:Nat→Int→Option ρ} {l:List α} (X:Nat→α→Option (Option ρ)) (E:Option ρ)
  (hend:∀ n,F (n+1) (l.length:Nat)=E)
  (hstep:∀ n i (h:i < l.length),F (n+1) (i:Nat)=orGo (X i l[i]) (F n ((i+1:Nat):Int))) :
  ∀ (r i:Nat),i+r=l.length→∀ n,r < n→F n (i:Nat)=scanX X E i (l.drop i):=by
 intro r
 induction r with
 | zero =>
  intro i hi n hn
  obtain ⟨n,rfl⟩:=dec n hn
  obtain rfl:i=l.length:=by omega
  rw [hend n,List.drop_eq_nil_of_le (Nat.le_refl _)]
  rfl
 | succ r ih =>
  intro i hi n hn
  obtain ⟨n,rfl⟩:=dec n (by omega)
  have h1:i < l.length:=by omega
  rw [hstep n i h1,drop_cons h1,scanX]
  cases hx:X i l[i] with
  | some e=>rfl
  | none=>exact ih (i+1) (by omega) n (by omega)
theorem scan00 {F:Nat→Int→Option ρ} {l:List α} (hl:l.length≤9223372036854775807) (X:Nat→α→Option (Option ρ)) (E:Option ρ)
  (hend:∀ n,F (n+1) (l.length:Nat)=E)
  (hstep:∀ n i (h:i < l.length),F (n+1) (i:Nat)=orGo (X i l[i]) (F n ((i+1:Nat):Int))):F big 0=scanX X E 0 l :=
 scan0 X E hend hstep l.length 0 (by omega) big (lt_big (by omega))
theorem scanS0 {F:Nat→Int→σ→Option ρ} {l:List α} (hl:l.length≤9223372036854775807) {X:Nat→α→σ→Option ρ ⊕ σ} {E:σ→Option ρ} (Inv:Nat→σ→Prop)
  (hend:∀ n s,Inv l.length s→F (n+1) (l.length:Nat) s=E s)
  (hstep:∀ n i s (h:i < l.length),Inv i s→F (n+1) (i:Nat) s=sumGo (X i l[i] s) fun s'=>F n ((i+1:Nat):Int) s')
  (hinv:∀ i s s' (h:i < l.length),Inv i s→X i l[i] s=.inr s'→Inv (i+1) s') (s:σ) (h0:Inv 0 s):F big 0 s=scanR X E 0 l s :=
 scan Inv hend hstep hinv l.length 0 (by omega) big s (lt_big (by omega)) h0
theorem scanX_find (p:α→Bool) (f:α→ρ) (E:Option ρ):∀ (l:List α) (i:Nat),scanX (fun _ x=>if p x=true then some (some (f x)) else none) E i l=match l.find? p with | some x=>some (f x) | none=>E
 | [],i=>rfl
 | x :: l,i=>by
  rw [scanX,List.find?_cons]
  cases h:p x with
  | true=>simp
  | false=>simp [scanX_find p f E l (i+1)]
theorem scanX_any (p:α→Bool) (z:Option ρ) (E:Option ρ):∀ (l:List α) (i:Nat),scanX (fun _ x=>if p x=true then some z else none) E i l=if l.any p=true then z else E
 | [],i=>by simp [scanX]
 | x :: l,i=>by
  rw [scanX]
  cases h:p x with
  | true=>simp [h]
  | false=>simp [h,scanX_any p z E l (i+1)]
end
end Go.S
end
section
namespace Go.Proofs.YtlecphianicdhaaGreat
open Go.S
set_option linter.unusedVariables false
set_option linter.unusedSimpArgs false
abbrev Md (m:Int):Prop:=1≤m∧m≤5
def fitS (a b:Int):Bool:=if min a b=1 then decide (max a b≠5) else if min a b=2 then decide (max a b=2) else if min a b=3 then decide (max a b=3) else false
def joinS (a b:Int):Int:=if min a b=2∧max a b=3 then 4 else max a b
theorem md_cases {m:Int} (h:Md m):m=1∨m=2∨m=3∨m=4∨m=5:=by unfold Md at h;omega
theorem fits_ref (a b:Int):M49 a b=some (fitS a b):=by
 unfold M49 fitS
 split
 ·rfl
 ·split
  ·rfl
  ·split <;> rfl
theorem fits_bits {a b:Int} (ha:Md a) (hb:Md b):∃ f x,M59 a=some f∧shrW .i64 f b=some x∧decide (Go.bits .and .i64 x 1=0)=!fitS a b:=by
 rcases md_cases ha with rfl | rfl | rfl | rfl | rfl <;> rcases md_cases hb with rfl | rfl | rfl | rfl | rfl <;> exact ⟨_,_,rfl,rfl,by decide +kernel⟩
theorem join_ref {a b:Int} (ha:Md a) (hb:Md b):M73 a b=some (joinS a b):=by
 rcases md_cases ha with rfl | rfl | rfl | rfl | rfl <;> rcases md_cases hb with rfl | rfl | rfl | rfl | rfl <;> decide +kernel
theorem isMode_eq (a:Int):M25 a=some (decide (Md a)):=by
 unfold M25 Md
 by_cases c:1≤a
 ·rw [if_pos c];simp [c]
 ·rw [if_neg c];simp [c]
theorem join_lock {a b:Int} (ha:Md a) (hb:Md b):M75 a b=some (joinS a b,0):=by
 rw [M75,isMode_eq,bind1_some,if_pos (by simpa using ha),isMode_eq,bind1_some,if_pos (by simpa using hb),M75K1]
 unfold joinS
 by_cases c1:min a b=2
 ·rw [if_pos c1]
  by_cases c2:max a b=3
  ·rw [if_pos c2,if_pos ⟨c1,c2⟩]
  ·rw [if_neg c2,if_neg (by simp [c2])]
 ·rw [if_neg c1,if_neg (by simp [c1])]
theorem fit_symm (a b:Int):fitS a b=fitS b a:=by unfold fitS;rw [Int.min_comm,Int.max_comm]
theorem join_md {a b:Int} (ha:Md a) (hb:Md b):Md (joinS a b):=by
 unfold joinS Md at *
 split <;> omega
theorem fit_join {a b c:Int} (ha:Md a) (hb:Md b) (hc:Md c) (h:fitS a b=false):fitS a (joinS b c)=false:=by
 revert h
 rcases md_cases ha with rfl | rfl | rfl | rfl | rfl <;> rcases md_cases hb with rfl | rfl | rfl | rfl | rfl <;> rcases md_cases hc with rfl | rfl | rfl | rfl | rfl <;> decide +kernel
def hasTx (l:List TL) (t:Int):Bool:=l.any fun h=>decide (h.Tx=t)
def holdsS (l:List TL) (t:Int):Int:=match l.find? (fun h=>decide (h.Tx=t)) with
 | some h=>h.Mode
 | none=>0
def wishS (H:List TL) (a:TL):Int:=match H.find? (fun h=>decide (h.Tx=a.Tx)) with
 | some h=>joinS h.Mode a.Mode
 | none=>a.Mode
def canS (H:List TL) (a:TL):Bool:=H.all fun h=>decide (h.Tx=a.Tx) || fitS (wishS H a) h.Mode
def Mds (l:List TL):Prop:=∀ h∈l,Md h.Mode
abbrev Ln {α:Type} (l:List α):Prop:=l.length≤9223372036854775807
theorem holds_eq (l:List TL) (hl:Ln l) (t:Int):M40 l t=some (holdsS l t):=by
 rw [M40,scan00 (F:=M40L1 l t) (l:=l) hl (fun _ x=>if decide (x.Tx=t)=true then some (some x.Mode) else none) (some 0) (fun n=>?_) (fun n i h=>?_),scanX_find]
 ·unfold holdsS
  cases l.find? (fun h=>decide (h.Tx=t)) <;> rfl
 ·rw [M40L1,M40L1B,if_neg (by omega),M40K1]
 ·rw [M40L1,M40L1B,if_pos (by omega),idx_ok h,bind1_some,isucc i (by unfold Ln at hl;omega)]
  by_cases c:l[i].Tx=t
  ·simp [c]
  ·simp [c]
theorem holds_pos {l:List TL} (hm:Mds l) (t:Int):0 < holdsS l t↔hasTx l t=true:=by
 unfold holdsS hasTx
 cases h:l.find? (fun h=>decide (h.Tx=t)) with
 | none =>
  rw [List.find?_eq_none] at h
  simp only [Int.lt_irrefl,false_iff,Bool.not_eq_true,List.any_eq_false]
  exact fun x hx=>by simpa using h x hx
 | some x =>
  have h1:=List.mem_of_find?_eq_some h
  have h2:=List.find?_some h
  have:=hm x h1
  exact ⟨fun _=>List.any_eq_true.2 ⟨x,h1,h2⟩,fun _=>by unfold Md at this;simp only;omega⟩
theorem holds_zero {l:List TL} (hm:Mds l) (t:Int):holdsS l t=0↔hasTx l t=false:=by
 have h1:=holds_pos hm t
 have h2:0≤holdsS l t:=by
  unfold holdsS
  cases h:l.find? (fun h=>decide (h.Tx=t)) with
  | none=>simp
  | some x =>
   have:=hm x (List.mem_of_find?_eq_some h)
   unfold Md at this
   simp only;omega
 rw [← Bool.not_eq_true,← h1]
 omega
theorem mem_mode {H:List TL} {a x:TL} (h:H.find? (fun h=>decide (h.Tx=a.Tx))=some x):x∈H:=List.mem_of_find?_eq_some h
theorem wish_md {H:List TL} {a:TL} (hm:Mds H) (ha:Md a.Mode):Md (wishS H a):=by
 unfold wishS
 cases h:H.find? (fun h=>decide (h.Tx=a.Tx)) with
 | none=>exact ha
 | some x=>exact join_md (hm x (mem_mode h)) ha
theorem wish_ref (x:TI) (a:TL) (hl:Ln x.Held) (hm:Mds x.Held) (ha:Md a.Mode):M50 x a=some (wishS x.Held a):=by
 rw [M50,holds_eq _ hl,bind1_some]
 have h1:=holds_pos hm a.Tx
 unfold holdsS wishS at *
 cases h:x.Held.find? (fun h=>decide (h.Tx=a.Tx)) with
 | none=>simp
 | some y =>
  have hy:=hm y (mem_mode h)
  simp only
  rw [if_pos (by unfold Md at hy;omega),join_ref hy ha,bind1_some]
theorem wish_lock (x:TI) (a:TL) (hl:Ln x.Held) (hm:Mds x.Held) (ha:Md a.Mode):M57 x a=some (wishS x.Held a):=by
 have key:∀ (l:List TL) (i:Nat),Mds l→scanX (fun _ y=>if y.Tx=a.Tx then some (bind2 (M75 y.Mode a.Mode) fun p q=>some p) else none) (some a.Mode) i l=some (wishS l a):=by
  intro l
  induction l with
  | nil=>intro i _;rfl
  | cons y l ih =>
   intro i hm
   rw [scanX]
   unfold wishS
   rw [List.find?_cons]
   by_cases c:y.Tx=a.Tx
   ·simp [c,join_lock (hm y (List.mem_cons_self ..)) ha]
   ·have h:=ih (i+1) (fun z hz=>hm z (List.mem_cons_of_mem _ hz))
    unfold wishS at h
    simp [c,h]
 rw [M57,scan00 (F:=M57L1 x a) (l:=x.Held) hl (fun _ y=>if y.Tx=a.Tx then some (bind2 (M75 y.Mode a.Mode) fun p q=>some p) else none) (some a.Mode) (fun n=>?_) (fun n i h=>?_),key _ _ hm]
 ·rw [M57L1,M57L1B,if_neg (by omega),M57K1]
 ·rw [M57L1,M57L1B,if_pos (by omega),idx_ok h,bind1_some,isucc i (by unfold Ln at hl;omega)]
  by_cases c:x.Held[i].Tx=a.Tx
  ·simp [c]
  ·simp [c]
theorem all_any {α:Type} (l:List α) (p:α→Bool):(!(l.any fun x=>!p x))=l.all p:=by
 induction l with
 | nil=>rfl
 | cons x l ih=>simp [← ih]
theorem can_ref (x:TI) (a:TL) (hl:Ln x.Held) (hm:Mds x.Held) (ha:Md a.Mode):M68 x a=some (canS x.Held a):=by
 rw [M68,scan00 (F:=M68L1 x a) (l:=x.Held) hl (fun _ y=>if (!(decide (y.Tx=a.Tx) || fitS (wishS x.Held a) y.Mode))=true then some (some false) else none) (some true) (fun n=>?_) (fun n i h=>?_),scanX_any]
 ·unfold canS
  rw [← all_any]
  cases h:(x.Held.any fun x_1=>!(decide (x_1.Tx=a.Tx) || fitS (wishS x.Held a) x_1.Mode)) <;> simp
 ·rw [M68L1,M68L1B,if_neg (by omega),M68K1]
 ·rw [M68L1,M68L1B,if_pos (by omega),idx_ok h,bind1_some,wish_ref x a hl hm ha,bind1_some,fits_ref,bind1_some,isucc i (by unfold Ln at hl;omega)]
  by_cases c:x.Held[i].Tx=a.Tx
  ·simp [c]
  ·cases c2:fitS (wishS x.Held a) x.Held[i].Mode <;> simp [c,c2]
theorem can_lock (x:TI) (a:TL) (hl:Ln x.Held) (hm:Mds x.Held) (ha:Md a.Mode):M33 x a=some (canS x.Held a):=by
 have hw:=wish_md hm ha
 rw [M33,wish_lock x a hl hm ha,bind1_some,scan00 (F:=M33L1 x a (wishS x.Held a)) (l:=x.Held) hl (fun _ y=>if (!(decide (y.Tx=a.Tx) || fitS (wishS x.Held a) y.Mode))=true then some (some false) else none) (some true) (fun n=>?_) (fun n i h=>?_),scanX_any]
 ·unfold canS
  rw [← all_any]
  cases h:(x.Held.any fun x_1=>!(decide (x_1.Tx=a.Tx) || fitS (wishS x.Held a) x_1.Mode)) <;> simp
 ·rw [M33L1,M33L1B,if_neg (by omega),M33K3,M33K2,M33K1];rfl
 ·rw [M33L1,M33L1B,if_pos (by omega),idx_ok h,bind1_some]
  obtain ⟨f,z,h1,h2,h3⟩:=fits_bits hw (hm _ (List.getElem_mem h))
  by_cases c:x.Held[i].Tx=a.Tx
  ·rw [if_neg (by simpa using c),M33K4,if_neg ff,isucc i (by unfold Ln at hl;omega),bind1_some]
   simp [c]
  ·rw [if_pos c,h1,bind1_some,h2,bind1_some,h3,M33K4,isucc i (by unfold Ln at hl;omega),bind1_some]
   cases c2:fitS (wishS x.Held a) x.Held[i].Mode
   ·simp [c,M33K2,M33K1]
   ·simp [c]
end Go.Proofs.YtlecphianicdhaaGreat
end
section
namespace Go.Proofs.YtlecphianicdhaaGreat
open Go.S
set_option linter.unusedVariables false
set_option linter.unusedSimpArgs false
def lvB (a:TL):Bool:=decide (0≤a.Tx) && decide (a.Tx≤11) && decide (Md a.Mode)
theorem lv_iff (a:TL):lvB a=true↔0≤a.Tx∧a.Tx≤11∧Md a.Mode:=by simp [lvB,and_assoc]
def okS:List TL→List TL→Bool
 | _,[]=>true
 | p,a :: l=>lvB a && !hasTx p a.Tx && okS (p++[a]) l
def pairS:List TL→Bool
 | []=>true
 | a :: l=>(l.all fun b=>fitS a.Mode b.Mode) && pairS l
def pairR:List TL→List TL→Bool
 | _,[]=>true
 | p,a :: l=>(p.all fun b=>fitS a.Mode b.Mode) && pairR (p++[a]) l
def headS (H Q:List TL):Bool:=match Q with
 | []=>true
 | q :: _=>!canS H q
def lineS (x:TI):Bool:=okS [] x.Held && okS [] x.Queue && pairS x.Held && headS x.Held x.Queue
theorem ok_mds:∀ (l p:List TL),okS p l=true→Mds l
 | [],p,_=>fun h hh=>by cases hh
 | a :: l,p,h=>by
  simp only [okS,Bool.and_eq_true] at h
  intro z hz
  rcases List.mem_cons.1 hz with rfl | hz
  ·exact ((lv_iff _).1 h.1.1).2.2
  ·exact ok_mds l _ h.2 z hz
theorem pair_iff:∀ (l:List TL),pairS l=true↔l.Pairwise fun a b=>fitS a.Mode b.Mode=true
 | []=>by simp [pairS]
 | a :: l=>by simp [pairS,pair_iff l]
theorem pairR_iff:∀ (l p:List TL),pairR p l=true↔(∀ a∈l,∀ b∈p,fitS a.Mode b.Mode=true)∧l.Pairwise fun a b=>fitS a.Mode b.Mode=true
 | [],p=>by simp [pairR]
 | a :: l,p=>by
  simp only [pairR,Bool.and_eq_true,pairR_iff l,List.all_eq_true,List.mem_cons,List.pairwise_cons,List.mem_append,List.mem_singleton,List.not_mem_nil,or_false]
  constructor
  ·rintro ⟨h1,h2,h3⟩
   refine ⟨fun c hc b hb=>?_,fun b hb=>?_,h3⟩
   ·rcases hc with rfl | hc
    ·exact h1 b hb
    ·exact h2 c hc b (.inl hb)
   ·rw [fit_symm];exact h2 b hb a (.inr rfl)
  ·rintro ⟨h1,h2,h3⟩
   refine ⟨h1 a (.inl rfl),fun c hc b hb=>?_,h3⟩
   rcases hb with hb | rfl
   ·exact h1 c (.inr hc) b hb
   ·rw [fit_symm];exact h2 c hc
theorem mds_take {l:List TL} (h:Mds l) (i:Nat):Mds (l.take i):=fun x hx=>h x (List.mem_of_mem_take hx)
theorem hasTx_snoc (p:List TL) (a:TL) (t:Int):hasTx (p++[a]) t=(hasTx p t || decide (a.Tx=t)):=by simp [hasTx]
theorem holds_snoc {p:List TL} (a:TL) (t:Int) (hm:Mds p):holdsS (p++[a]) t=if hasTx p t=true then holdsS p t else if a.Tx=t then a.Mode else 0:=by
 unfold holdsS hasTx
 rw [List.find?_append]
 cases h:p.find? (fun h=>decide (h.Tx=t)) with
 | none =>
  have h1:(p.any fun h=>decide (h.Tx=t))=false:=by
   rw [List.any_eq_false]
   rw [List.find?_eq_none] at h
   exact h
  rw [h1]
  by_cases c:a.Tx=t <;> simp [c]
 | some x =>
  have h1:(p.any fun h=>decide (h.Tx=t))=true:=List.any_eq_true.2 ⟨x,List.mem_of_find?_eq_some h,by simpa using List.find?_some h⟩
  rw [h1]
  simp
theorem scan_ok {ρ:Type} {l:List TL} {E bad:Option ρ} {σ:Type} {X:Nat→TL→σ→Option ρ ⊕ σ} (hX:∀ i s (h:i < l.length),(lvB l[i] && !hasTx (l.take i) l[i].Tx)=false→X i l[i] s=.inl bad)
  (hG:∀ i s (h:i < l.length),(lvB l[i] && !hasTx (l.take i) l[i].Tx)=true→∃ s',X i l[i] s=.inr s'):∀ (r i:Nat),i+r=l.length→∀ s,scanR X (fun _=>E) i (l.drop i) s=if okS (l.take i) (l.drop i)=true then E else bad:=by
 intro r
 induction r with
 | zero =>
  intro i hi s
  rw [List.drop_eq_nil_of_le (by omega)]
  simp [scanR,okS]
 | succ r ih =>
  intro i hi s
  have h1:i < l.length:=by omega
  rw [drop_cons h1,scanR,okS]
  cases c:(lvB l[i] && !hasTx (l.take i) l[i].Tx) with
  | false=>rw [hX i s h1 c];simp
  | true =>
   obtain ⟨s',hs⟩:=hG i s h1 c
   rw [hs,← take_snoc h1,Bool.true_and]
   exact ih (i+1) (by omega) s'
theorem lock_tab (x:TI) (l:List TL) (hl:Ln l) (K:Option Int) (F:Nat→Int→List Int→Option Int)
  (hend:∀ n s,F (n+1) (l.length:Nat) s=K)
  (hbad:∀ n i s (h:i < l.length),(lvB l[i]=false→F (n+1) (i:Nat) s=some 4))
  (hgood:∀ n i s (h:i < l.length),lvB l[i]=true→F (n+1) (i:Nat) s=bind1 (idxA 12 s l[i].Tx) fun x13=>if 0 < x13 then some 4 else bind1 (idxA 12 s l[i].Tx) fun x15=>bind1 (upd s l[i].Tx l[i].Mode) fun l16=>bind1 (i64 ((i:Nat)+1)) fun x17=>F n x17 l16) :
  F big 0 (List.replicate 12 (0:Int))=if okS [] l=true then K else some 4:=by
 let X:Nat→TL→List Int→Option Int ⊕ List Int:=fun i y s=>if (lvB y && !hasTx (l.take i) y.Tx)=true then .inr (tab 12 (holdsS (l.take (i+1)))) else .inl (some 4)
 have h:=scanS0 (F:=F) (l:=l) hl (X:=X) (E:=fun _=>K) (fun i s=>s=tab 12 (holdsS (l.take i))∧Mds (l.take i)) (fun n s _=>hend n s) (fun n i s h hI=>?_) (fun i s s' h hI hx=>?_) (List.replicate 12 (0:Int)) ⟨by rw [tab_repl];rfl,fun z hz=>by simp at hz⟩
 ·rw [h]
  have h2:=scan_ok (X:=X) (l:=l) (E:=K) (bad:=some 4) (fun i s h hc=>by simp only [X];rw [hc];rfl) (fun i s h hc=>⟨_,by simp only [X];rw [hc];rfl⟩) l.length 0 (by omega) (List.replicate 12 (0:Int))
  simpa using h2
 ·obtain ⟨rfl,hm⟩:=hI
  cases c:lvB l[i] with
  | false =>
   rw [hbad n i _ h c]
   simp [X,c]
  | true =>
   obtain ⟨h0,h1,h2⟩:=(lv_iff _).1 c
   rw [hgood n i _ h c,tab_idxA h0 (by omega),bind1_some]
   by_cases c2:hasTx (l.take i) l[i].Tx=true
   ·rw [if_pos ((holds_pos hm _).2 c2)]
    simp [X,c,c2]
   ·rw [if_neg (by rw [holds_pos hm];exact c2),bind1_some,tab_upd _ h0 (by omega),bind1_some,isucc i (by unfold Ln at hl;omega),bind1_some]
    have e:(tab 12 fun t=>if t=l[i].Tx then l[i].Mode else holdsS (l.take i) t)=tab 12 (holdsS (l.take (i+1))):=by
     refine tab_ext fun t _ _=>?_
     rw [take_snoc h,holds_snoc _ _ hm]
     by_cases c3:t=l[i].Tx
     ·rw [if_pos c3,c3,if_neg c2,if_pos rfl]
     ·rw [if_neg c3]
      by_cases c4:hasTx (l.take i) t=true
      ·rw [if_pos c4]
      ·rw [if_neg c4,if_neg (fun h=>c3 h.symm)]
       exact (holds_zero hm t).2 (by simpa using c4)
    rw [e]
    simp [X,c,c2]
 ·obtain ⟨rfl,hm⟩:=hI
  simp only [X] at hx
  split at hx
  ·rename_i hc
   simp only [Bool.and_eq_true] at hc
   refine ⟨(Sum.inr.inj hx).symm,?_⟩
   rw [take_snoc h]
   intro z hz
   rcases List.mem_append.1 hz with hz | hz
   ·exact hm z hz
   ·simp only [List.mem_singleton] at hz
    subst hz
    exact ((lv_iff _).1 hc.1).2.2
  ·cases hx
theorem head_lock (x:TI) (hl:Ln x.Held) (hm:Mds x.Held) (hq:Mds x.Queue):M53K3 x=some (if headS x.Held x.Queue=true then 0 else 4):=by
 rw [M53K3]
 unfold headS
 cases hQ:x.Queue with
 | nil=>simp
 | cons q Q =>
  have h1:idx x.Queue 0=some q:=by rw [hQ];rfl
  rw [if_pos (by simp only [List.length_cons];omega),← hQ,h1,bind1_some,can_lock x q hl hm (hq q (by rw [hQ];simp)),bind1_some]
  cases hc:canS x.Held q <;> simp [hQ,hc]
theorem queue_lock (x:TI) (hl:Ln x.Held) (hm:Mds x.Held) (hq:Ln x.Queue):M53K2 x=some (if (okS [] x.Queue && headS x.Held x.Queue)=true then 0 else 4):=by
 rw [M53K2,lock_tab x x.Queue hq (M53K3 x) (M53L1 x) (fun n s=>?_) (fun n i s h hb=>?_) (fun n i s h hg=>?_)]
 ·cases c:okS [] x.Queue with
  | false=>simp
  | true=>simp [head_lock x hl hm (ok_mds _ _ c)]
 ·rw [M53L1,M53L1B,if_neg (by omega)]
 ·rw [M53L1,M53L1B,if_pos (by omega),idx_ok h,bind1_some]
  by_cases c1:x.Queue[i].Tx < 0
  ·rw [if_pos c1,M53K4,if_pos rfl]
  ·rw [if_neg c1]
   by_cases c2:12≤x.Queue[i].Tx
   ·rw [if_pos c2,M53K4,if_pos rfl]
   ·rw [if_neg c2,M53K4,if_neg ff,isMode_eq,bind1_some,if_neg]
    simp only [decide_eq_true_eq]
    intro h5
    rw [← Bool.not_eq_true,lv_iff] at hb
    exact hb ⟨by omega,by omega,h5⟩
 ·obtain ⟨h0,h1,h2⟩:=(lv_iff _).1 hg
  rw [M53L1,M53L1B,if_pos (by omega),idx_ok h,bind1_some,if_neg (by omega),if_neg (by omega),M53K4,if_neg ff,isMode_eq,bind1_some,if_pos (by simpa using h2)]
theorem pairs_lock (x:TI) (hl:Ln x.Held) (hm:Mds x.Held) (hq:Ln x.Queue):M53K1 x=some (if (pairS x.Held && (okS [] x.Queue && headS x.Held x.Queue))=true then 0 else 4):=by
 have inner:∀ (y:TL) (L:List TL) (i:Int) (go:Int→Option Int),Ln L→Md y.Mode→Mds L→M53L3 L y i go big 0=if (L.all fun b=>fitS y.Mode b.Mode)=true then M53K5 i go else some 4:=by
  intro y L i go hL hy hm
  rw [scan00 (F:=M53L3 L y i go) (l:=L) hL (fun _ b=>if (!fitS y.Mode b.Mode)=true then some (some 4) else none) (M53K5 i go) (fun n=>?_) (fun n i h=>?_),scanX_any]
  ·rw [← all_any]
   cases (L.any fun b=>!fitS y.Mode b.Mode) <;> simp
  ·rw [M53L3,M53L3B,if_neg (by omega)]
  ·obtain ⟨f,z,h1,h2,h3⟩:=fits_bits hy (hm _ (List.getElem_mem h))
   rw [M53L3,M53L3B,if_pos (by omega),idx_ok h,bind1_some,h1,bind1_some,h2,bind1_some,isucc i (by unfold Ln at hL;omega),bind1_some]
   cases c2:fitS y.Mode L[i].Mode with
   | false=>rw [c2] at h3;rw [if_pos (by simpa using h3)];simp
   | true=>rw [c2] at h3;rw [if_neg (by simpa using h3)];simp
 have key:∀ (r i:Nat),i+r=x.Held.length→∀ n,r < n→M53L2 x n (i:Nat)=some (if (pairS (x.Held.drop i) && (okS [] x.Queue && headS x.Held x.Queue))=true then 0 else 4):=by
  intro r
  induction r with
  | zero =>
   intro i hi n hn
   obtain ⟨n,rfl⟩:=dec n hn
   rw [M53L2,M53L2B,if_neg (by omega),List.drop_eq_nil_of_le (by omega),queue_lock x hl hm hq]
   rfl
  | succ r ih =>
   intro i hi n hn
   obtain ⟨n,rfl⟩:=dec n (by omega)
   have h1:i < x.Held.length:=by omega
   have hs:=isucc i (by unfold Ln at hl;omega)
   have hm':Mds (x.Held.drop (i+1)):=fun z hz=>hm z (List.mem_of_mem_drop hz)
   rw [M53L2,M53L2B,if_pos (by omega),idx_ok h1,bind1_some,hs,bind1_some,cut_drop _ _ (by omega),bind1_some,inner _ _ _ _ (by unfold Ln at *;rw [List.length_drop];omega) (hm _ (List.getElem_mem h1)) hm',drop_cons h1,pairS]
   cases c:((x.Held.drop (i+1)).all fun b=>fitS x.Held[i].Mode b.Mode) with
   | false=>simp
   | true=>rw [if_pos rfl,M53K5,hs,bind1_some,ih (i+1) (by omega) n (by omega),Bool.true_and]
 rw [M53K1]
 exact key x.Held.length 0 (by omega) big (lt_big (by unfold Ln at hl;omega))
theorem line_lock (x:TI) (hl:Ln x.Held) (hq:Ln x.Queue):M53 x=some (if lineS x=true then 0 else 4):=by
 rw [M53,lock_tab x x.Held hl (M53K1 x) (M53L4 x) (fun n s=>?_) (fun n i s h hb=>?_) (fun n i s h hg=>?_)]
 ·unfold lineS
  cases c:okS [] x.Held with
  | false=>simp
  | true =>
   rw [if_pos rfl,pairs_lock x hl (ok_mds _ _ c) hq]
   cases okS [] x.Queue <;> cases pairS x.Held <;> simp
 ·rw [M53L4,M53L4B,if_neg (by omega)]
 ·rw [M53L4,M53L4B,if_pos (by omega),idx_ok h,bind1_some]
  by_cases c1:x.Held[i].Tx < 0
  ·rw [if_pos c1,M53K6,if_pos rfl]
  ·rw [if_neg c1]
   by_cases c2:12≤x.Held[i].Tx
   ·rw [if_pos c2,M53K6,if_pos rfl]
   ·rw [if_neg c2,M53K6,if_neg ff,isMode_eq,bind1_some,if_neg]
    simp only [decide_eq_true_eq]
    intro h5
    rw [← Bool.not_eq_true,lv_iff] at hb
    exact hb ⟨by omega,by omega,h5⟩
 ·obtain ⟨h0,h1,h2⟩:=(lv_iff _).1 hg
  rw [M53L4,M53L4B,if_pos (by omega),idx_ok h,bind1_some,if_neg (by omega),if_neg (by omega),M53K6,if_neg ff,isMode_eq,bind1_some,if_pos (by simpa using h2)]
def LnT (t:List TI):Prop:=∀ x∈t,Ln x.Held∧Ln x.Queue
def prevS (t:List TI) (i:Nat):Option Int:=if 0 < i then (t[i - 1]?).map TI.Item else none
def lowB (p:Option Int) (x:TI):Bool:=match p with
 | some q=>decide (x.Item≤q)
 | none=>false
def itemS (p:Option Int) (x:TI):Option Int:=if x.Item < 0∨19 < x.Item then some 1 else if (lowB p x || x.Held.isEmpty || !lineS x)=true then some 4 else none
def errS:Option Int→List TI→Int
 | _,[]=>0
 | p,x :: t=>match itemS p x with
  | some e=>e
  | none=>errS (some x.Item) t
def checkS (t:List TI):Int:=if 20 < t.length then 2 else errS none t
theorem scan_err {t:List TI}:∀ (r i:Nat),i+r=t.length→scanX (fun i x=>(itemS (prevS t i) x).map some) (some 0) i (t.drop i)=some (errS (prevS t i) (t.drop i)):=by
 intro r
 induction r with
 | zero=>intro i hi;rw [List.drop_eq_nil_of_le (by omega)];rfl
 | succ r ih =>
  intro i hi
  have h1:i < t.length:=by omega
  rw [drop_cons h1,scanX,errS]
  cases h:itemS (prevS t i) t[i] with
  | some e=>rfl
  | none =>
   have:=ih (i+1) (by omega)
   have e:prevS t (i+1)=some t[i].Item:=by unfold prevS;rw [if_pos (by omega),Nat.add_sub_cancel,List.getElem?_eq_getElem h1];rfl
   rw [e] at this
   simpa [e] using this
theorem check_lock (t:List TI) (hl:Ln t) (ht:LnT t):M24 t=some (checkS t):=by
 rw [M24,checkS]
 by_cases c:20 < t.length
 ·rw [if_pos (by omega),if_pos c]
 rw [if_neg (by omega),if_neg c,M24K1,scan00 (F:=M24L1 t) (l:=t) hl (fun i x=>(itemS (prevS t i) x).map some) (some 0) (fun n=>?_) (fun n i h=>?_)]
 ·have:=scan_err (t:=t) t.length 0 (by omega)
  rw [List.drop_zero] at this
  rw [this];rfl
 ·rw [M24L1,M24L1B,if_neg (by omega),M24K2]
 ·obtain ⟨hx1,hx2⟩:=ht _ (List.getElem_mem h)
  rw [M24L1,M24L1B,if_pos (by omega),idx_ok h,bind1_some]
  unfold itemS
  by_cases c1:t[i].Item < 0
  ·rw [if_pos c1,if_pos (.inl c1)];rfl
  by_cases c2:19 < t[i].Item
  ·rw [if_neg c1,if_pos (by omega),if_pos (.inr c2)];rfl
  rw [if_neg c1,if_neg (by omega),if_neg (by omega),M24K3]
  have tail:∀ b:Bool,M24K4 t[i] i (M24L1 t n) b=orGo (Option.map some (if (b || t[i].Held.isEmpty || !lineS t[i])=true then some 4 else none)) (M24L1 t n ((i+1:Nat):Int)):=by
   intro b
   rw [M24K4]
   cases b with
   | true=>simp
   | false =>
    rw [if_neg ff]
    by_cases c3:(t[i].Held.length:Int)=0
    ·have:t[i].Held=[]:=List.length_eq_zero_iff.1 (by omega)
     rw [if_pos c3];simp [this]
    ·have:t[i].Held.isEmpty=false:=by cases hh:t[i].Held with
      | nil=>rw [hh] at c3;simp at c3
      | cons _ _=>rfl
     rw [if_neg c3,line_lock _ hx1 hx2,bind1_some,isucc i (by unfold Ln at hl;omega),bind1_some,this]
     cases lineS t[i] <;> simp
  by_cases c4:0 < i
  ·have e:prevS t i=some (t[i - 1]'(by omega)).Item:=by unfold prevS;rw [if_pos c4,List.getElem?_eq_getElem (by omega)];rfl
   rw [if_pos (by omega),ipred i c4 (by unfold Ln at hl;omega),bind1_some,idx_ok (by omega),bind1_some,e,lowB]
   by_cases c5:t[i].Item≤(t[i - 1]'(by omega)).Item
   ·rw [if_pos c5,tail];simp [c5]
   ·rw [if_neg c5,tail,show decide (t[i].Item≤(t[i - 1]'(by omega)).Item)=false by simpa using c5]
  ·have e:prevS t i=none:=by unfold prevS;rw [if_neg c4]
   rw [if_neg (by omega),tail,e,lowB]
end Go.Proofs.YtlecphianicdhaaGreat
end
section
namespace Go.Proofs.YtlecphianicdhaaGreat
open Go.S
set_option linter.unusedVariables false
set_option linter.unusedSimpArgs false
abbrev Ds (l:List TL):Prop:=l.Pairwise fun a b=>a.Tx≠b.Tx
theorem hasTx_false {p:List TL} {t:Int}:hasTx p t=false↔∀ h∈p,h.Tx≠t:=by
 unfold hasTx
 rw [List.any_eq_false]
 simp
theorem hasTx_true {p:List TL} {t:Int}:hasTx p t=true↔∃ h∈p,h.Tx=t:=by
 unfold hasTx
 rw [List.any_eq_true]
 simp
theorem ok_iff:∀ (l p:List TL),okS p l=true↔(∀ a∈l,lvB a=true)∧(∀ a∈l,hasTx p a.Tx=false)∧Ds l
 | [],p=>by simp [okS]
 | a :: l,p=>by
  rw [okS,Bool.and_eq_true,Bool.and_eq_true,ok_iff l,Bool.not_eq_true']
  simp only [List.mem_cons,forall_eq_or_imp,List.pairwise_cons,hasTx_snoc,Bool.or_eq_false_iff,decide_eq_false_iff_not,Ds]
  constructor
  ·rintro ⟨⟨h1,h2⟩,h3,h4,h5⟩
   exact ⟨⟨h1,h3⟩,⟨h2,fun b hb=>(h4 b hb).1⟩,fun b hb=>(h4 b hb).2,h5⟩
  ·rintro ⟨⟨h1,h3⟩,⟨h2,h4⟩,h5,h6⟩
   exact ⟨⟨h1,h2⟩,h3,fun b hb=>⟨h4 b hb,h5 b hb⟩,h6⟩
theorem ok_iff0 (l:List TL):okS [] l=true↔(∀ a∈l,lvB a=true)∧Ds l:=by
 rw [ok_iff]
 simp [hasTx]
theorem ds_nodup {l:List TL} (h:Ds l):(l.map TL.Tx).Nodup:=by
 rw [List.Nodup,List.pairwise_map]
 exact h
theorem ok_len {l:List TL} (h:okS [] l=true):l.length≤12:=by
 obtain ⟨h1,h2⟩:=(ok_iff0 l).1 h
 have h3:(l.map TL.Tx) ⊆ (List.range 12).map fun i:Nat=>(i:Int):=by
  intro t ht
  obtain ⟨a,ha,rfl⟩:=List.mem_map.1 ht
  obtain ⟨g1,g2,_⟩:=(lv_iff _).1 (h1 a ha)
  refine List.mem_map.2 ⟨a.Tx.toNat,List.mem_range.2 (by omega),by omega⟩
 have:=(ds_nodup h2).length_le_of_subset h3
 simpa using this
structure Rt (x:TI):Prop where
 i0:0≤x.Item
 i1:x.Item≤19
 ne:x.Held≠[]
 line:lineS x=true
abbrev Asc (t:List TI):Prop:=t.Pairwise fun x y=>x.Item < y.Item
theorem item_none {p:Option Int} {x:TI}:itemS p x=none↔Rt x∧lowB p x=false:=by
 unfold itemS
 by_cases c1:x.Item < 0∨19 < x.Item
 ·rw [if_pos c1]
  constructor
  ·intro h;cases h
  ·rintro ⟨h,_⟩
   have:=h.i0;have:=h.i1;omega
 rw [if_neg c1]
 by_cases c2:(lowB p x || x.Held.isEmpty || !lineS x)=true
 ·rw [if_pos c2]
  constructor
  ·intro h;cases h
  ·rintro ⟨h,h2⟩
   have h3:=h.ne
   have h4:=h.line
   have h5:x.Held.isEmpty=false:=by cases hh:x.Held with
    | nil=>exact absurd hh h3
    | cons _ _=>rfl
   rw [h2,h4,h5] at c2
   simp at c2
 rw [if_neg c2]
 simp only [Bool.or_eq_true,not_or,Bool.not_eq_true,Bool.not_eq_true'] at c2
 obtain ⟨⟨g1,g2⟩,g3⟩:=c2
 refine ⟨fun _=>⟨⟨by omega,by omega,?_,by simpa using g3⟩,g1⟩,fun _=>rfl⟩
 intro h
 rw [h] at g2
 cases g2
theorem item_pos {p:Option Int} {x:TI} {e:Int} (h:itemS p x=some e):e≠0:=by
 unfold itemS at h
 split at h
 ·cases h;decide
 ·split at h
  ·cases h;decide
  ·cases h
theorem err_iff:∀ (t:List TI) (p:Option Int),errS p t=0↔(∀ x∈t,Rt x)∧(∀ x∈t,lowB p x=false)∧Asc t
 | [],p=>by simp [errS]
 | x :: t,p=>by
  rw [errS]
  cases h:itemS p x with
  | some e =>
   simp only
   refine ⟨fun h2=>absurd h2 (item_pos h),fun h2=>?_⟩
   have:itemS p x=none:=item_none.2 ⟨h2.1 x (by simp),h2.2.1 x (by simp)⟩
   rw [this] at h
   cases h
  | none =>
   obtain ⟨g1,g2⟩:=item_none.1 h
   simp only
   rw [err_iff t (some x.Item)]
   simp only [List.mem_cons,forall_eq_or_imp,List.pairwise_cons,Asc]
   have e:∀ y:TI,lowB (some x.Item) y=false↔x.Item < y.Item:=fun y=>by simp [lowB]
   constructor
   ·rintro ⟨h1,h2,h3⟩
    refine ⟨⟨g1,h1⟩,⟨g2,fun y hy=>?_⟩,fun y hy=>(e y).1 (h2 y hy),h3⟩
    have h4:=(e y).1 (h2 y hy)
    cases p with
    | none=>rfl
    | some q =>
     simp only [lowB,decide_eq_false_iff_not,Int.not_le] at g2 ⊢
     omega
   ·rintro ⟨⟨_,h1⟩,⟨_,_⟩,h3,h4⟩
    exact ⟨h1,fun y hy=>(e y).2 (h3 y hy),h4⟩
structure Good (t:List TI):Prop where
 len:t.length≤20
 rt:∀ x∈t,Rt x
 asc:Asc t
theorem good_iff (t:List TI):checkS t=0↔Good t:=by
 unfold checkS
 by_cases c:20 < t.length
 ·rw [if_pos c]
  exact ⟨fun h=>(by cases h),fun h=>(by have:=h.len;omega)⟩
 ·rw [if_neg c,err_iff]
  exact ⟨fun h=>⟨by omega,h.1,h.2.2⟩,fun h=>⟨h.rt,fun _ _=>rfl,h.asc⟩⟩
theorem Rt.held {x:TI} (h:Rt x):okS [] x.Held=true:=by
 have:=h.line
 simp only [lineS,Bool.and_eq_true] at this
 exact this.1.1.1
theorem Rt.queue {x:TI} (h:Rt x):okS [] x.Queue=true:=by
 have:=h.line
 simp only [lineS,Bool.and_eq_true] at this
 exact this.1.1.2
theorem Rt.pair {x:TI} (h:Rt x):pairS x.Held=true:=by
 have:=h.line
 simp only [lineS,Bool.and_eq_true] at this
 exact this.1.2
theorem Rt.head {x:TI} (h:Rt x):headS x.Held x.Queue=true:=by
 have:=h.line
 simp only [lineS,Bool.and_eq_true] at this
 exact this.2
theorem Rt.hl {x:TI} (h:Rt x):x.Held.length≤12:=ok_len h.held
theorem Rt.ql {x:TI} (h:Rt x):x.Queue.length≤12:=ok_len h.queue
theorem Rt.hm {x:TI} (h:Rt x):Mds x.Held:=ok_mds _ _ h.held
theorem Rt.qm {x:TI} (h:Rt x):Mds x.Queue:=ok_mds _ _ h.queue
theorem clone_eq (l:List TL) (h:l.length≤2513169434916):M54 l=some l:=by
 rw [M54,app_ok (by simpa using h),bind1_some,List.nil_append]
theorem scan_snoc {α ρ:Type} (E:List α→Option ρ):∀ (l:List α) (i:Nat) (s:List α),scanR (fun _ x s=>.inr (s++[x])) E i l s=E (s++l)
 | [],i,s=>by simp [scanR]
 | x :: l,i,s=>(scan_snoc E l (i+1) (s++[x])).trans (by simp)
theorem copied_eq {t:List TI} (hl:t.length≤20) (h:∀ x∈t,x.Held.length≤12∧x.Queue.length≤12):M28 t=some t:=by
 rw [M28]
 have:=scanS0 (F:=fun n i s=>M28L1 t n s i) (l:=t) (by omega) (X:=fun _ x s=>.inr (s++[x])) (E:=fun s=>some s) (fun i s=>s.length=i) (fun n s hs=>?_) (fun n i s hi hs=>?_) (fun i s s' hi hs hx=>?_) [] rfl
 ·rw [scan_snoc] at this
  simpa using this
 ·show M28L1 t (n+1) s (t.length:Nat)=_
  rw [M28L1,M28L1B,if_neg (by omega),M28K1]
 ·obtain ⟨h1,h2⟩:=h _ (List.getElem_mem hi)
  show M28L1 t (n+1) s (i:Nat)=_
  rw [M28L1,M28L1B,if_pos (by omega),idx_ok hi,bind1_some,clone_eq _ (by omega),bind1_some,clone_eq _ (by omega),bind1_some,app_ok (by simp;omega),bind1_some,isucc i (by omega),bind1_some]
  rfl
 ·cases hx
  simp [hs]
def giveL (H:List TL) (a:TL):List TL:=if hasTx H a.Tx=true then H.map (fun h=>if h.Tx=a.Tx then ⟨h.Tx,wishS H a⟩ else h) else H++[⟨a.Tx,wishS H a⟩]
theorem scan_map {α ρ:Type} (g:α→α) (E:List α→Option ρ):∀ (l:List α) (i:Nat) (s:List α),scanR (fun _ x s=>.inr (s++[g x])) E i l s=E (s++l.map g)
 | [],i,s=>by simp [scanR]
 | x :: l,i,s=>(scan_map g E l (i+1) (s++[g x])).trans (by simp)
theorem given_eq (x:TI) (a:TL) (hl:x.Held.length≤1000000) (hm:Mds x.Held) (ha:Md a.Mode):M69 x a=some ⟨x.Item,giveL x.Held a,x.Queue⟩:=by
 have hL:Ln x.Held:=by unfold Ln;omega
 rw [M69,wish_ref x a hL hm ha,bind1_some]
 have:=scanS0 (F:=fun n i s=>M69L1 x a (wishS x.Held a) n i s) (l:=x.Held) hL (X:=fun _ h s=>.inr (s++[if h.Tx=a.Tx then ⟨h.Tx,wishS x.Held a⟩ else h])) (E:=fun s=>M69K1 x a (wishS x.Held a) s) (fun i s=>s.length=i) (fun n s hs=>?_) (fun n i s hi hs=>?_) (fun i s s' hi hs hx=>?_) [] rfl
 ·rw [scan_map] at this
  rw [show M69L1 x a (wishS x.Held a) big 0 []=_ from this,M69K1,holds_eq _ hL,bind1_some,List.nil_append]
  unfold giveL
  by_cases c:hasTx x.Held a.Tx=true
  ·rw [if_neg (by rw [holds_zero hm];simp [c]),if_pos c]
  ·have e:(x.Held.map fun h=>if h.Tx=a.Tx then (⟨h.Tx,wishS x.Held a⟩:TL) else h)=x.Held:=by
    have h1:=hasTx_false.1 (by simpa using c)
    conv=>rhs;rw [← List.map_id x.Held]
    exact List.map_congr_left fun h hh=>by rw [if_neg (h1 h hh)];rfl
   rw [if_pos ((holds_zero hm _).2 (by simpa using c)),if_neg c,e,app_ok (by simp;omega),bind1_some]
 ·show M69L1 x a (wishS x.Held a) (n+1) (x.Held.length:Nat) s=_
  rw [M69L1,M69L1B,if_neg (by omega)]
 ·show M69L1 x a (wishS x.Held a) (n+1) (i:Nat) s=_
  rw [M69L1,M69L1B,if_pos (by omega),idx_ok hi,bind1_some]
  by_cases c:x.Held[i].Tx=a.Tx
  ·rw [if_pos c,M69K2,app_ok (by simp;omega),bind1_some,isucc i (by omega),bind1_some]
   simp [c]
  ·rw [if_neg c,M69K2,app_ok (by simp;omega),bind1_some,isucc i (by omega),bind1_some]
   simp [c]
 ·cases hx
  simp [hs]
theorem set_map {H:List TL} (hd:Ds H) {i:Nat} (h:i < H.length) (m:Int):H.set i ⟨H[i].Tx,m⟩=H.map fun h=>if h.Tx=H[i].Tx then ⟨h.Tx,m⟩ else h:=by
 apply List.ext_getElem
 ·simp
 ·intro j h1 h2
  simp only [List.length_set] at h1
  rw [List.getElem_set,List.getElem_map]
  by_cases c:i=j
  ·subst c
   rw [if_pos rfl,if_pos rfl]
  ·rw [if_neg c,if_neg]
   intro hh
   rcases Nat.lt_or_gt_of_ne c with hlt | hlt
   ·exact (List.pairwise_iff_getElem.1 hd i j h h1 hlt) hh.symm
   ·exact (List.pairwise_iff_getElem.1 hd j i h1 h hlt) hh
theorem give_scan {ρ:Type} {F:Nat→Int→Option ρ} {H:List TL} (hl:H.length≤1000000) (hd:Ds H) {a:TL} {m:Int} (K:List TL→Option ρ) (E:Option ρ)
  (hend:∀ n,F (n+1) (H.length:Nat)=E)
  (hstep:∀ n i (h:i < H.length),F (n+1) (i:Nat)=if H[i].Tx=a.Tx then bind1 (upd H (i:Nat) ⟨H[i].Tx,m⟩) K else bind1 (i64 ((i:Nat)+1)) fun x=>F n x) :
  F big 0=if hasTx H a.Tx=true then K (H.map fun h=>if h.Tx=a.Tx then ⟨h.Tx,m⟩ else h) else E:=by
 have key:∀ (r i:Nat),i+r=H.length→∀ n,r < n→F n (i:Nat)=if hasTx (H.drop i) a.Tx=true then K (H.map fun h=>if h.Tx=a.Tx then ⟨h.Tx,m⟩ else h) else E:=by
  intro r
  induction r with
  | zero =>
   intro i hi n hn
   obtain ⟨n,rfl⟩:=dec n hn
   obtain rfl:i=H.length:=by omega
   rw [hend,List.drop_eq_nil_of_le (Nat.le_refl _)]
   rfl
  | succ r ih =>
   intro i hi n hn
   obtain ⟨n,rfl⟩:=dec n (by omega)
   have h1:i < H.length:=by omega
   have e:hasTx (H.drop i) a.Tx=(decide (H[i].Tx=a.Tx) || hasTx (H.drop (i+1)) a.Tx):=by rw [drop_cons h1];rfl
   rw [hstep n i h1,e]
   by_cases c:H[i].Tx=a.Tx
   ·rw [if_pos c,upd_ok _ h1,bind1_some,set_map hd h1,c]
    simp
   ·rw [if_neg c,isucc i (by omega),bind1_some,ih (i+1) (by omega) n (by omega)]
    simp [c]
 have:=key H.length 0 (by omega) big (lt_big (by omega))
 simpa using this
end Go.Proofs.YtlecphianicdhaaGreat
end
section
namespace Go.Proofs.YtlecphianicdhaaGreat
open Go.S
set_option linter.unusedVariables false
set_option linter.unusedSimpArgs false
def cntS (H Q:List TL):Nat:=(Q.takeWhile fun q=>hasTx H q.Tx).length
def lateS (H Q:List TL) (a:TL):List TL:=if hasTx H a.Tx=true then Q.take (cntS H Q)++[a]++Q.drop (cntS H Q) else Q++[a]
def askedS (x:TI) (a:TL):TI×Bool :=
 if (canS x.Held a && (hasTx x.Held a.Tx || x.Queue.isEmpty))=true then (⟨x.Item,giveL x.Held a,x.Queue⟩,true) else (⟨x.Item,x.Held,lateS x.Held x.Queue a⟩,false)
theorem cnt_le (H Q:List TL):cntS H Q≤Q.length:=(List.takeWhile_prefix _).length_le
theorem takeWhile_step {α:Type} (p:α→Bool) {l:List α} {i:Nat} (h:i < l.length):((l.drop i).takeWhile p).length=if p l[i]=true then ((l.drop (i+1)).takeWhile p).length+1 else 0:=by
 rw [drop_cons h,List.takeWhile_cons]
 split <;> simp
theorem scan_while {α ρ:Type} (p:α→Bool) {F:Nat→Int→Option ρ} {l:List α} (hl:l.length≤1000000) (G:Nat→Option ρ) (hend:∀ n,F (n+1) (l.length:Nat)=G l.length)
  (hstep:∀ n i (h:i < l.length),F (n+1) (i:Nat)=if p l[i]=true then bind1 (i64 ((i:Nat)+1)) fun x=>F n x else G i):F big 0=G (l.takeWhile p).length:=by
 have key:∀ (r i:Nat),i+r=l.length→∀ n,r < n→F n (i:Nat)=G (i+((l.drop i).takeWhile p).length):=by
  intro r
  induction r with
  | zero =>
   intro i hi n hn
   obtain ⟨n,rfl⟩:=dec n hn
   obtain rfl:i=l.length:=by omega
   rw [hend,List.drop_eq_nil_of_le (Nat.le_refl _)];rfl
  | succ r ih =>
   intro i hi n hn
   obtain ⟨n,rfl⟩:=dec n (by omega)
   have h1:i < l.length:=by omega
   rw [hstep n i h1,takeWhile_step p h1]
   by_cases c:p l[i]=true
   ·rw [if_pos c,if_pos c,isucc i (by omega),bind1_some,ih (i+1) (by omega) n (by omega)]
    congr 1;omega
   ·rw [if_neg c,if_neg c];rfl
 have:=key l.length 0 (by omega) big (lt_big (by omega))
 simpa using this
theorem insR_ok {α:Type} {l:List α} {i:Nat} (x:α) (h:i≤l.length) (hl:l.length≤1000000000):xInsR l (i:Int) x=some (l.take i++[x]++l.drop i):=by
 unfold xInsR
 rw [if_pos ⟨by omega,by omega,hl⟩]
 rfl
section
variable {x:TI} {a:TL}
theorem late_ref (hx:Rt x) (h:hasTx x.Held a.Tx=true):M41K5 x a=some (⟨x.Item,x.Held,lateS x.Held x.Queue a⟩,false):=by
 have h1:=hx.hl
 have h2:=hx.ql
 have hL:Ln x.Held:=by unfold Ln;omega
 have hc:=cnt_le x.Held x.Queue
 rw [M41K5,scan_while (fun q=>hasTx x.Held q.Tx) (F:=M41L1 x a) (l:=x.Queue) (by omega) (fun i=>M41K6 x a (i:Nat)) (fun n=>?_) (fun n i hi=>?_)]
 ·show M41K6 x a (cntS x.Held x.Queue:Nat)=_
  rw [M41K6,clone_eq _ (by omega),bind1_some,insR_ok _ hc (by omega),bind1_some,M41K7,lateS,if_pos h]
 ·rw [M41L1,M41L1B,if_neg (by omega)]
 ·rw [M41L1,M41L1B,if_pos (by omega),idx_ok hi,bind1_some,holds_eq _ hL,bind1_some]
  by_cases c:hasTx x.Held x.Queue[i].Tx=true
  ·rw [if_pos ((holds_pos hx.hm _).2 c),if_pos c]
  ·rw [if_neg (by rw [holds_pos hx.hm];exact c),if_neg c]
theorem asked_ref (hx:Rt x) (ha:Md a.Mode):M41 x a=some (askedS x a):=by
 have h1:=hx.hl
 have h2:=hx.ql
 have hL:Ln x.Held:=by unfold Ln;omega
 rw [M41,holds_eq _ hL,bind1_some,askedS]
 by_cases c:hasTx x.Held a.Tx=true
 ·rw [if_pos ((holds_pos hx.hm _).2 c),M41K1,if_pos rfl,can_ref x a hL hx.hm ha,bind1_some]
  cases c2:canS x.Held a with
  | true=>simp [c,given_eq x a (by omega) hx.hm ha]
  | false=>rw [if_neg ff,late_ref hx c,if_neg (by simp)]
 ·rw [if_neg (by rw [holds_pos hx.hm];exact c),M41K1,if_neg ff,can_ref x a hL hx.hm ha,bind1_some]
  have late:M41K2 x a=some (⟨x.Item,x.Held,lateS x.Held x.Queue a⟩,false):=by
   rw [M41K2,M41K3,clone_eq _ (by omega),bind1_some,insR_ok _ (Nat.le_refl _) (by omega),bind1_some,M41K4,lateS,if_neg c]
   simp
  cases c2:canS x.Held a with
  | true =>
   rw [if_pos rfl]
   cases hQ:x.Queue with
   | nil=>simp [given_eq x a (by omega) hx.hm ha,hQ]
   | cons q Q =>
    rw [← hQ,if_neg (by rw [hQ];simp only [List.length_cons];omega),late,if_neg]
    simp [c,hQ]
  | false=>rw [if_neg ff,late,if_neg (by simp)]
end
def insS (item:Int) (a:TL):List TI→List TI×Bool
 | []=>([⟨item,[a],[]⟩],true)
 | x :: t=>if item < x.Item then (⟨item,[a],[]⟩ :: x :: t,true) else if x.Item=item then ((askedS x a).1 :: t,(askedS x a).2) else (x :: (insS item a t).1,(insS item a t).2)
def askS (t:List TI) (tx item mode:Int):List TI×Bool×Int :=
 if (t.any fun x=>hasTx x.Queue tx)=true then ([],false,10) else ((insS item ⟨tx,mode⟩ t).1,(insS item ⟨tx,mode⟩ t).2,0)
section
variable {t:List TI} {tx item mode:Int}
theorem rest_ref (hg:Good t):∀ (r i:Nat),i+r=t.length→∀ n,r < n→∀ (out:List TI) (ok:Bool),out.length≤i+1→M18L1 t item tx mode n out true ok (i:Nat)=some (out++t.drop i,ok,0):=by
 have hl:=hg.len
 intro r
 induction r with
 | zero =>
  intro i hi n hn out ok ho
  obtain ⟨n,rfl⟩:=dec n hn
  rw [M18L1,M18L1B,if_neg (by omega),M18K2,if_pos rfl,List.drop_eq_nil_of_le (by omega),List.append_nil]
 | succ r ih =>
  intro i hi n hn out ok ho
  obtain ⟨n,rfl⟩:=dec n (by omega)
  have h1:i < t.length:=by omega
  rw [M18L1,M18L1B,if_pos (by omega),idx_ok h1,bind1_some,if_pos rfl,M18K3,if_pos rfl,app_ok (by simp;omega),bind1_some,isucc i (by omega),bind1_some,ih (i+1) (by omega) n (by omega) _ _ (by simp;omega),drop_cons h1,List.append_assoc]
  rfl
theorem ins_ref (hg:Good t) (hm:Md mode):∀ (r i:Nat),i+r=t.length→∀ n,r < n→∀ (out:List TI),out.length≤i→M18L1 t item tx mode n out false false (i:Nat)=some (out++(insS item ⟨tx,mode⟩ (t.drop i)).1,(insS item ⟨tx,mode⟩ (t.drop i)).2,0):=by
 have hl:=hg.len
 intro r
 induction r with
 | zero =>
  intro i hi n hn out ho
  obtain ⟨n,rfl⟩:=dec n hn
  rw [M18L1,M18L1B,if_neg (by omega),M18K2,if_neg ff,List.drop_eq_nil_of_le (by omega),app_ok (by simp;omega),bind1_some]
  rfl
 | succ r ih =>
  intro i hi n hn out ho
  obtain ⟨n,rfl⟩:=dec n (by omega)
  have h1:i < t.length:=by omega
  have hs:=isucc i (by omega)
  rw [M18L1,M18L1B,if_pos (by omega),idx_ok h1,bind1_some,if_neg ff,drop_cons h1,insS]
  by_cases c1:item≤t[i].Item
  ·rw [if_pos c1]
   by_cases c2:item < t[i].Item
   ·rw [if_pos c2,if_pos c2,app_ok (by simp;omega),bind1_some,M18K3,if_pos rfl,app_ok (by simp;omega),bind1_some,hs,bind1_some,rest_ref hg r (i+1) (by omega) n (by omega) _ _ (by simp;omega)]
    simp only [List.append_assoc]
    rfl
   ·have c3:t[i].Item=item:=by omega
    obtain ⟨z1,z2,hz⟩:∃ z1 z2,askedS t[i] ⟨tx,mode⟩=(z1,z2):=⟨_,_,rfl⟩
    rw [if_neg c2,if_neg c2,if_pos c3,asked_ref (hg.rt _ (List.getElem_mem h1)) hm,hz,bind2_some,M18K3,if_pos rfl,app_ok (by simp;omega),bind1_some,hs,bind1_some,rest_ref hg r (i+1) (by omega) n (by omega) _ _ (by simp;omega),List.append_assoc]
    rfl
  ·rw [if_neg c1,if_neg (by omega),if_neg (by omega),M18K3,if_neg ff,app_ok (by simp;omega),bind1_some,hs,bind1_some,ih (i+1) (by omega) n (by omega) _ (by simp;omega),List.append_assoc]
   rfl
theorem ask_ref (hg:Good t) (hm:Md mode):M18 t tx item mode=some (askS t tx item mode):=by
 have hl:=hg.len
 rw [M18,scan00 (F:=M18L2 t tx item mode) (l:=t) (by omega) (fun _ x=>if hasTx x.Queue tx=true then some (some ([],false,10)) else none) (M18K1 t item tx mode) (fun n=>?_) (fun n i h=>?_),scanX_any,askS]
 ·split
  ·rfl
  ·rw [M18K1]
   have:=ins_ref (item:=item) (tx:=tx) hg hm t.length 0 (by omega) big (lt_big (by omega)) [] (by simp)
   rw [List.drop_zero] at this
   exact this
 ·rw [M18L2,M18L2B,if_neg (by omega)]
 ·have hx:=hg.rt _ (List.getElem_mem h)
  have:=hx.ql
  rw [M18L2,M18L2B,if_pos (by omega),idx_ok h,bind1_some,holds_eq _ (by unfold Ln;omega),bind1_some,isucc i (by omega),bind1_some]
  by_cases c:hasTx t[i].Queue tx=true
  ·rw [if_pos ((holds_pos hx.qm _).2 c)];simp [c]
  ·rw [if_neg (by rw [holds_pos hx.qm];exact c)];simp [c]
abbrev posS (t:List TI) (item:Int):Nat:=(t.takeWhile fun x=>decide (x.Item < item)).length
theorem pos_le:posS t item≤t.length:=(List.takeWhile_prefix _).length_le
theorem pos_iff:∀ {t:List TI},Asc t→∀ q (h:q < t.length),t[q].Item < item↔q < posS t item
 | [],_,q,h=>by simp at h
 | x :: t,ha,q,h=>by
  obtain ⟨h1,h2⟩:=List.pairwise_cons.1 ha
  unfold posS
  rw [List.takeWhile_cons]
  by_cases c:x.Item < item
  ·rw [if_pos (by simpa using c)]
   cases q with
   | zero=>simpa using c
   | succ q =>
    have:=pos_iff h2 q (by simpa using h)
    simp only [List.getElem_cons_succ,List.length_cons]
    rw [this]
    exact ⟨fun h=>Nat.succ_lt_succ h,fun h=>Nat.lt_of_succ_lt_succ h⟩
  ·rw [if_neg (by simpa using c)]
   simp only [List.length_nil,Nat.not_lt_zero,iff_false]
   cases q with
   | zero=>exact c
   | succ q =>
    have hq:q < t.length:=by simpa using h
    have:=h1 t[q] (List.getElem_mem hq)
    simp only [List.getElem_cons_succ]
    omega
theorem ins_pos (a:TL):∀ {t:List TI},insS item a t=(t.take (posS t item)++(insS item a (t.drop (posS t item))).1,(insS item a (t.drop (posS t item))).2)
 | []=>by simp
 | x :: t=>by
  unfold posS
  rw [List.takeWhile_cons]
  by_cases c:x.Item < item
  ·rw [if_pos (by simpa using c),List.length_cons,List.take_succ_cons,List.drop_succ_cons]
   have h:=ins_pos a (t:=t)
   rw [insS,if_neg (by omega),if_neg (by omega)]
   have e1:=congrArg Prod.fst h
   have e2:=congrArg Prod.snd h
   simp only at e1 e2
   rw [e1,e2]
   rfl
  ·rw [if_neg (by simpa using c)]
   rfl
theorem shr1 (a:Nat) (h:a < 9223372036854775808):shrW .u64 (IntKind.wrap .u64 (a:Int)) 1=some ((a / 2:Nat):Int):=by
 rw [wrapU_nat .u64 rfl a (by rw [p64];omega)]
 have:=shrW_u64 a 1 (by omega)
 simpa using this
theorem find_lock (hg:Good t) (h0:0≤item) (h1:item≤19):∀ (k i j:Nat),j - i≤k→i≤posS t item→posS t item≤j→j≤t.length→∀ n,k < n→M14L6 t item tx mode n (i:Nat) (j:Nat)=M14K24 t item tx mode (posS t item:Nat):=by
 have hl:=hg.len
 intro k
 induction k with
 | zero =>
  intro i j hk hi hj hjl n hn
  obtain ⟨n,rfl⟩:=dec n hn
  have:i=posS t item:=by omega
  rw [M14L6,M14L6B,if_neg (by omega),this]
 | succ k ih =>
  intro i j hk hi hj hjl n hn
  obtain ⟨n,rfl⟩:=dec n (by omega)
  rw [M14L6,M14L6B]
  by_cases c:i < j
  ·have hh:(i+j) / 2 < t.length:=by omega
   have hx:=hg.rt _ (List.getElem_mem hh)
   have:=hx.i0
   have:=hx.i1
   rw [if_pos (by omega),M14K26,show ((i:Nat):Int)+((j:Nat):Int)=((i+j:Nat):Int) by omega,i64_ok (by omega) (by omega),bind1_some,shr1 _ (by omega),bind1_some,wrapI64 (by omega) (by omega),idx_ok hh,bind1_some,i64_ok (by omega) (by omega),bind1_some,M14K27,wrapI64 (by omega) (by omega)]
   have hp:=pos_iff (item:=item) hg.asc _ hh
   by_cases c2:t[(i+j) / 2].Item < item
   ·have:=hp.1 c2
    rw [if_pos (by omega),isucc _ (by omega),bind1_some]
    exact ih _ j (by omega) (by omega) hj hjl n (by omega)
   ·rw [if_neg (by omega)]
    rw [hp] at c2
    exact ih i _ (by omega) hi (by omega) (by omega) n (by omega)
  ·have:i=posS t item:=by omega
   rw [if_neg (by omega),this]
section
variable {a1 a3:Int} {p:Nat}
theorem late_in {x y:TI} (hH:y.Held=x.Held) (h1:x.Held.length≤12) (g:Nat) (T:List TI) (P:Int) (q:TL) (hq:idx y.Queue (g:Nat)=some q) (go:Int→Option (List TI×Bool×Int)) :
  M14L3 y (g:Nat) go T P tx mode big 0=M14K13 (g:Nat) go T P tx mode (hasTx x.Held q.Tx):=by
 rw [scan00 (F:=M14L3 y (g:Nat) go T P tx mode) (l:=x.Held) (by omega) (fun _ z=>if decide (z.Tx=q.Tx)=true then some (M14K13 (g:Nat) go T P tx mode true) else none) (M14K13 (g:Nat) go T P tx mode false) (fun n=>?_) (fun n i h=>?_),scanX_any]
 ·unfold hasTx
  cases (x.Held.any fun z=>decide (z.Tx=q.Tx)) with
  | true=>rw [if_pos rfl]
  | false=>rw [if_neg ff]
 ·rw [M14L3,M14L3B,hH,if_neg (by omega),M14K15,M14K14,show decide ((0:Int)≤-1)=false by decide]
 ·rw [M14L3,M14L3B,hH,if_pos (by omega),idx_ok h,bind1_some,hq,bind1_some,M14K16,isucc i (by omega),bind1_some]
  by_cases c:x.Held[i].Tx=q.Tx
  ·rw [if_pos (by simpa using c),M14K14,show decide ((0:Int)≤((i:Nat):Int))=true by simp,if_pos (by simpa using c),orGo_some]
  ·rw [if_neg (by simpa using c),if_neg (by simpa using c),orGo_none]
theorem late_lock {x:TI} (hp:p < t.length) (hx:Rt x) (h:hasTx x.Held tx=true):M14K10 x tx mode t (p:Nat)=some (t.set p ⟨x.Item,x.Held,lateS x.Held x.Queue ⟨tx,mode⟩⟩,false,0):=by
 have h1:=hx.hl
 have h2:=hx.ql
 have hc:=cnt_le x.Held x.Queue
 rw [M14K10,app_ok (by simp;omega),bind1_some,upd_ok _ hp,bind1_some]
 generalize hy:(⟨x.Item,x.Held,x.Queue++[⟨tx,mode⟩]⟩:TI)=y
 have hyH:y.Held=x.Held:=by rw [← hy]
 have hyQ:y.Queue=x.Queue++[⟨tx,mode⟩]:=by rw [← hy]
 have hyI:y.Item=x.Item:=by rw [← hy]
 have hyl:((y.Queue.length:Nat):Int) - 1=(x.Queue.length:Nat):=by rw [hyQ,List.length_append,List.length_singleton];omega
 have hyi:i64 ((x.Queue.length:Nat):Int)=some ((x.Queue.length:Nat):Int):=i64_ok (by omega) (by omega)
 have hi:idx (t.set p y) (p:Nat)=some y:=by rw [idx_ok (by simpa using hp),List.getElem_set_self]
 rw [scan_while (fun q=>hasTx x.Held q.Tx) (F:=M14L2 (t.set p y) (p:Nat) tx mode) (l:=x.Queue) (by omega) (fun i=>M14K12 (t.set p y) (p:Nat) tx mode (i:Nat)) (fun n=>?_) (fun n i h=>?_)]
 ·show M14K12 (t.set p y) (p:Nat) tx mode (cntS x.Held x.Queue:Nat)=_
  have e1:y.Queue.take x.Queue.length=x.Queue:=by rw [hyQ,List.take_left]
  rw [M14K12,hi,bind1_some,hyl,hyi,bind1_some,cut_take _ _ (by rw [hyQ,List.length_append];omega),bind1_some,e1,insR_ok _ hc (by omega),bind1_some,upd_ok _ (by simpa using hp),bind1_some,M14K11,List.set_set,hyI,hyH,lateS,if_pos h]
 ·rw [M14L2,M14L2B,hi,bind1_some,hyl,hyi,bind1_some,if_neg (by omega)]
 ·have hq:idx y.Queue (i:Nat)=some x.Queue[i]:=by
   rw [hyQ,idx_nat,List.getElem?_append_left h,List.getElem?_eq_getElem h]
  rw [M14L2,M14L2B,hi,bind1_some,hyl,hyi,bind1_some,if_pos (by omega),late_in hyH h1 i _ _ _ hq,M14K13]
theorem item_lock (hp:p < t.length) (hx:Rt t[p]) (hm:Md mode):M14K4 t tx mode item (p:Nat) true=some (t.set p (askedS t[p] ⟨tx,mode⟩).1,(askedS t[p] ⟨tx,mode⟩).2,0):=by
 have h1:=hx.hl
 have h2:=hx.ql
 have hL:Ln t[p].Held:=by unfold Ln;omega
 have hds:=((ok_iff0 _).1 hx.held).2
 rw [M14K4,if_pos rfl,idx_ok hp,bind1_some]
 have hcan:=can_lock t[p] ⟨tx,mode⟩ hL hx.hm hm
 have hwish:=wish_lock t[p] ⟨tx,mode⟩ hL hx.hm hm
 rw [scan00 (F:=M14L5 t[p] tx mode t (p:Nat)) (l:=t[p].Held) (by omega) (fun _ z=>if decide (z.Tx=tx)=true then some (M14K5 t[p] tx mode t (p:Nat) true) else none) (M14K5 t[p] tx mode t (p:Nat) false) (fun n=>?_) (fun n i h=>?_),scanX_any]
 ·rw [show (t[p].Held.any fun z=>decide (z.Tx=tx))=hasTx t[p].Held tx from rfl]
  unfold askedS
  cases c:hasTx t[p].Held tx with
  | true =>
   rw [if_pos rfl,M14K5,if_pos rfl,hcan,bind1_some]
   cases c2:canS t[p].Held ⟨tx,mode⟩ with
   | false=>rw [if_neg ff,late_lock hp hx c];simp
   | true =>
    rw [if_pos rfl,hwish,bind1_some,give_scan (F:=M14L4 t[p] tx (wishS t[p].Held ⟨tx,mode⟩) t (p:Nat)) (H:=t[p].Held) (a:=⟨tx,mode⟩) (m:=wishS t[p].Held ⟨tx,mode⟩) (by omega) hds (fun l=>some (t.set p ⟨t[p].Item,l,t[p].Queue⟩,true,0)) (M14K18 t[p] tx (wishS t[p].Held ⟨tx,mode⟩) t (p:Nat)) (fun n=>?_) (fun n i h=>?_),if_pos c]
    ·simp [giveL,c]
    ·rw [M14L4,M14L4B,if_neg (by omega)]
    ·rw [M14L4,M14L4B,if_pos (by omega),idx_ok h,bind1_some,bind1_some,upd_ok _ h,bind1_some,bind1_some,upd_ok _ hp,bind1_some,M14K17]
  | false =>
   rw [if_neg ff,M14K5,if_neg ff,hcan,bind1_some]
   have late:M14K6 t[p] tx mode t (p:Nat)=some (t.set p ⟨t[p].Item,t[p].Held,lateS t[p].Held t[p].Queue ⟨tx,mode⟩⟩,false,0):=by
    rw [M14K6,app_ok (by simp;omega),bind1_some,upd_ok _ hp,bind1_some,M14K7,lateS,if_neg (by rw [c];simp)]
   cases c2:canS t[p].Held ⟨tx,mode⟩ with
   | false=>rw [if_neg ff,late];simp
   | true =>
    rw [if_pos rfl]
    by_cases c3:t[p].Queue=[]
    ·rw [if_pos (by rw [c3];rfl),hwish,bind1_some,give_scan (F:=M14L1 t[p] tx (wishS t[p].Held ⟨tx,mode⟩) t (p:Nat)) (H:=t[p].Held) (a:=⟨tx,mode⟩) (m:=wishS t[p].Held ⟨tx,mode⟩) (by omega) hds (fun l=>some (t.set p ⟨t[p].Item,l,t[p].Queue⟩,true,0)) (M14K9 t[p] tx (wishS t[p].Held ⟨tx,mode⟩) t (p:Nat)) (fun n=>?_) (fun n i h=>?_),if_neg (by rw [c];simp),M14K9,app_ok (by simp;omega),bind1_some,upd_ok _ hp,bind1_some,M14K8]
     ·simp [giveL,c,c3]
     ·rw [M14L1,M14L1B,if_neg (by omega)]
     ·rw [M14L1,M14L1B,if_pos (by omega),idx_ok h,bind1_some,bind1_some,upd_ok _ h,bind1_some,bind1_some,upd_ok _ hp,bind1_some,M14K8]
    ·have:(t[p].Queue.length:Int)≠0:=by
      intro h0
      exact c3 (List.length_eq_zero_iff.1 (by omega))
     rw [if_neg this,late,if_neg]
     simp [c3]
 ·rw [M14L5,M14L5B,if_neg (by omega),M14K21,M14K20,M14K19];rfl
 ·rw [M14L5,M14L5B,if_pos (by omega),idx_ok h,bind1_some,M14K22,isucc i (by omega),bind1_some]
  by_cases c:t[p].Held[i].Tx=tx
  ·simp [c,M14K20,M14K19]
  ·simp [c]
end
theorem ask_lock (hg:Good t) (h0:0≤item) (h1:item≤19) (ht0:0≤tx) (ht1:tx≤11) (hm:Md mode):M14 t tx item mode=some (askS t tx item mode):=by
 have hl:=hg.len
 have hchk:=check_lock t (by unfold Ln;omega) (fun x hx=>by
  have:=(hg.rt x hx).hl
  have:=(hg.rt x hx).ql
  unfold Ln;omega)
 rw [(good_iff t).2 hg] at hchk
 rw [M14,hchk,bind1_some,if_neg (by simp),M14K1,if_neg (by omega),if_neg (by omega),M14K32,if_neg ff,if_neg (by omega),if_neg (by omega),M14K33,if_neg ff,isMode_eq,bind1_some,if_pos (by simpa using hm),M14K2,
  scan00 (F:=M14L7 t tx item mode) (l:=t) (by omega) (fun _ x=>if hasTx x.Queue tx=true then some (some ([],false,10)) else none) (M14K3 t item tx mode) (fun n=>?_) (fun n i h=>?_),scanX_any,askS]
 ·split
  ·rfl
  ·rw [M14K3,copied_eq hl (fun x hx=>⟨(hg.rt x hx).hl,(hg.rt x hx).ql⟩),bind1_some]
   have:=find_lock (item:=item) (tx:=tx) (mode:=mode) hg h0 h1 t.length 0 t.length (by omega) (by omega) pos_le (Nat.le_refl _) big (lt_big (by omega))
   rw [show M14L6 t item tx mode big 0 (t.length:Int)=_ from this,M14K24,ins_pos]
   have hpl:=pos_le (t:=t) (item:=item)
   have new:M14K23 t tx mode item (posS t item:Nat) false=some (t.take (posS t item)++[⟨item,[⟨tx,mode⟩],[]⟩]++t.drop (posS t item),true,0):=by
    rw [M14K23,if_neg ff,M14K4,if_neg ff,insR_ok _ hpl (by omega),bind1_some]
   by_cases c:posS t item < t.length
   ·have hx:=hg.rt _ (List.getElem_mem c)
    have:=hx.i0
    have:=hx.i1
    have hp:=pos_iff (item:=item) hg.asc _ c
    rw [if_pos (by omega),idx_ok c,bind1_some,i64_ok (by omega) (by omega),bind1_some,M14K25,drop_cons c,insS]
    by_cases c2:t[posS t item].Item=item
    ·rw [if_neg (by omega),if_pos c2,show decide (t[posS t item].Item - item=0)=true by simp;omega,M14K23,if_pos rfl,item_lock c hx hm,List.set_eq_take_append_cons_drop,if_pos c]
    ·rw [if_pos (by omega),show decide (t[posS t item].Item - item=0)=false by simp;omega,new,drop_cons c]
     simp
   ·rw [if_neg (by omega),new,List.drop_eq_nil_of_le (by omega)]
    simp [insS]
 ·rw [M14L7,M14L7B,if_neg (by omega)]
 ·have hx:=hg.rt _ (List.getElem_mem h)
  have:=hx.ql
  rw [M14L7,M14L7B,if_pos (by omega),idx_ok h,bind1_some,scan00 (F:=M14L8 t[i] tx (i:Nat) (M14L7 t tx item mode n)) (l:=t[i].Queue) (by omega) (fun _ z=>if decide (z.Tx=tx)=true then some (M14K28 (i:Nat) (M14L7 t tx item mode n) true) else none) (M14K28 (i:Nat) (M14L7 t tx item mode n) false) (fun n=>?_) (fun n j h=>?_),scanX_any]
  ·rw [show (t[i].Queue.any fun z=>decide (z.Tx=tx))=hasTx t[i].Queue tx from rfl]
   cases hasTx t[i].Queue tx with
   | true=>simp [M14K28]
   | false=>simp only [M14K28,isucc i (by omega)];simp
  ·rw [M14L8,M14L8B,if_neg (by omega),M14K30,M14K29];rfl
  ·rw [M14L8,M14L8B,if_pos (by omega),idx_ok h,bind1_some,M14K31,isucc j (by omega),bind1_some]
   by_cases c:t[i].Queue[j].Tx=tx
   ·simp [c,M14K29]
   ·simp [c]
end
end Go.Proofs.YtlecphianicdhaaGreat
end
section
namespace Go.Proofs.YtlecphianicdhaaGreat
open Go.S
set_option linter.unusedVariables false
set_option linter.unusedSimpArgs false
section
variable {α ρ:Type} {keep:α→Bool} {l0:List α} {z:α}
theorem del_loop {F:Nat→List α→Int→Int→Option ρ} (hl:l0.length≤1000000) (K:List α→Option ρ)
  (hend:∀ n (l:List α) (i:Nat),l.length=l0.length→F (n+1) l (i:Nat) (l.length:Nat)=bind1 (cut l (i:Nat) l.length) fun _=>bind1 (clr l (i:Nat) z) fun l59=>bind1 (cut l59 0 (i:Nat)) fun l60=>K l60)
  (hstep:∀ n (l:List α) (i j:Nat) (h:j < l.length),l.length=l0.length→F (n+1) l (i:Nat) (j:Nat)=if keep l[j]=true then bind1 (idx l (i:Nat)) fun _=>bind1 (upd l (i:Nat) l[j]) fun l67=>bind1 (i64 ((i:Nat)+1)) fun x68=>bind1 (i64 ((j:Nat)+1)) fun x69=>F n l67 x68 x69 else bind1 (i64 ((j:Nat)+1)) fun x70=>F n l (i:Nat) x70) :
  ∀ (r j:Nat),j+r=l0.length→∀ (l:List α) (i:Nat) (n:Nat),r < n→i < j→l.length=l0.length→l.take i=(l0.take j).filter keep→l.drop j=l0.drop j→F n l (i:Nat) (j:Nat)=K (l0.filter keep):=by
 intro r
 induction r with
 | zero =>
  intro j hj l i n hn hij hll ht hd
  obtain ⟨n,rfl⟩:=dec n hn
  have e:j=l.length:=by omega
  subst e
  have e1:l0.take l.length=l0:=List.take_of_length_le (by omega)
  rw [e1] at ht
  have e2:(l.take i++List.replicate (l.length - i) z).take i=l.take i:=List.take_left' (by rw [List.length_take];omega)
  rw [hend n l i hll,cut_drop _ _ (by omega),bind1_some,clr_ok _ _ _ (by omega),bind1_some,cut_take _ _ (by rw [List.length_append,List.length_take,List.length_replicate];omega),bind1_some,e2,ht]
 | succ r ih =>
  intro j hj l i n hn hij hll ht hd
  obtain ⟨n,rfl⟩:=dec n (by omega)
  have h1:j < l.length:=by omega
  have h2:j < l0.length:=by omega
  have e1:l[j]=l0[j]:=by
   have h3:=congrArg List.head? hd
   rw [drop_cons h1,drop_cons h2] at h3
   exact Option.some.inj h3
  have e2:l.drop (j+1)=l0.drop (j+1):=by
   have h3:=congrArg List.tail hd
   rw [drop_cons h1,drop_cons h2] at h3
   exact h3
  rw [hstep n l i j h1 hll,e1]
  by_cases c:keep l0[j]=true
  ·rw [if_pos c,idx_ok (by omega),bind1_some,upd_ok _ (by omega),bind1_some,isucc i (by omega),bind1_some,isucc j (by omega),bind1_some]
   refine ih (j+1) (by omega) _ (i+1) n (by omega) (by omega) (by simpa using hll) ?_ ?_
   ·rw [take_snoc (by simp;omega),List.getElem_set_self,List.take_set_of_le (Nat.le_refl _),ht,take_snoc h2,List.filter_append]
    simp [c]
   ·rw [List.drop_set_of_lt (by omega),e2]
  ·rw [if_neg c,isucc j (by omega),bind1_some]
   refine ih (j+1) (by omega) l i n (by omega) (by omega) hll ?_ e2
   rw [ht,take_snoc h2,List.filter_append]
   simp [c]
theorem del_all {F1:Nat→Int→Option ρ} {F:Nat→List α→Int→Int→Option ρ} (hl:l0.length≤1000000) (K:List α→Option ρ)
  (hend:∀ n (l:List α) (i:Nat),l.length=l0.length→F (n+1) l (i:Nat) (l.length:Nat)=bind1 (cut l (i:Nat) l.length) fun _=>bind1 (clr l (i:Nat) z) fun l59=>bind1 (cut l59 0 (i:Nat)) fun l60=>K l60)
  (hstep:∀ n (l:List α) (i j:Nat) (h:j < l.length),l.length=l0.length→F (n+1) l (i:Nat) (j:Nat)=if keep l[j]=true then bind1 (idx l (i:Nat)) fun _=>bind1 (upd l (i:Nat) l[j]) fun l67=>bind1 (i64 ((i:Nat)+1)) fun x68=>bind1 (i64 ((j:Nat)+1)) fun x69=>F n l67 x68 x69 else bind1 (i64 ((j:Nat)+1)) fun x70=>F n l (i:Nat) x70)
  (hend1:∀ n,F1 (n+1) (l0.length:Nat)=K l0)
  (hstep1:∀ n i (h:i < l0.length),F1 (n+1) (i:Nat)=if keep l0[i]=true then bind1 (i64 ((i:Nat)+1)) fun x=>F1 n x else bind1 (i64 ((i:Nat)+1)) fun x=>F big l0 (i:Nat) x):F1 big 0=K (l0.filter keep):=by
 have key:∀ (r i:Nat),i+r=l0.length→(∀ q (h:q < l0.length),q < i→keep l0[q]=true)→∀ n,r < n→F1 n (i:Nat)=K (l0.filter keep):=by
  intro r
  induction r with
  | zero =>
   intro i hi hk n hn
   obtain ⟨n,rfl⟩:=dec n hn
   obtain rfl:i=l0.length:=by omega
   rw [hend1,List.filter_eq_self.2]
   intro x hx
   obtain ⟨q,hq,rfl⟩:=List.getElem_of_mem hx
   exact hk q hq hq
  | succ r ih =>
   intro i hi hk n hn
   obtain ⟨n,rfl⟩:=dec n (by omega)
   have h1:i < l0.length:=by omega
   rw [hstep1 n i h1]
   by_cases c:keep l0[i]=true
   ·rw [if_pos c,isucc i (by omega),bind1_some]
    refine ih (i+1) (by omega) (fun q hq hqi=>?_) n (by omega)
    by_cases c2:q=i
    ·subst c2;exact c
    ·exact hk q hq (by omega)
   ·rw [if_neg c,isucc i (by omega),bind1_some]
    refine del_loop hl K hend hstep (l0.length - (i+1)) (i+1) (by omega) l0 i big (lt_big (by omega)) (by omega) rfl ?_ rfl
    rw [take_snoc h1,List.filter_append,List.filter_eq_self.2]
    ·simp [c]
    ·intro x hx
     obtain ⟨q,hq,rfl⟩:=List.getElem_of_mem hx
     rw [List.getElem_take]
     rw [List.length_take] at hq
     exact hk q (by omega) (by omega)
 exact key l0.length 0 (by omega) (fun q h h2=>absurd h2 (by omega)) big (lt_big (by omega))
end
theorem scan_filter {α ρ:Type} (p:α→Bool) (E:List α→Option ρ):∀ (l:List α) (i:Nat) (s:List α),scanR (fun _ x s=>.inr (if p x=true then s++[x] else s)) E i l s=E (s++l.filter p)
 | [],i,s=>by simp [scanR]
 | x :: l,i,s=>(scan_filter p E l (i+1) _).trans (by
  by_cases c:p x=true
  ·rw [if_pos c,List.filter_cons,if_pos c];simp
  ·rw [if_neg c,List.filter_cons,if_neg c])
def without (l:List TL) (tx:Int):List TL:=l.filter fun a=>!decide (a.Tx=tx)
def dropQ:List TL→List TL→List Int→List TL×List TL×List Int
 | H,[],g=>(H,[],g)
 | H,q :: Q,g=>if canS H q=true then dropQ (giveL H q) Q (g++[q.Tx]) else (H,q :: Q,g)
def dropT (tx:Int):List TI→List TI→List Int→List TI×List Int
 | [],out,g=>(out,g)
 | x :: t,out,g=>dropT tx t (if (dropQ (without x.Held tx) (without x.Queue tx) g).1.isEmpty=true then out else out++[⟨x.Item,(dropQ (without x.Held tx) (without x.Queue tx) g).1,(dropQ (without x.Held tx) (without x.Queue tx) g).2.1⟩]) (dropQ (without x.Held tx) (without x.Queue tx) g).2.2
def dropS (t:List TI) (tx:Int):List TI×List Int:=dropT tx t [] []
theorem give_mds {H:List TL} {a:TL} (hm:Mds H) (ha:Md a.Mode):Mds (giveL H a):=by
 unfold giveL
 split
 ·intro z hz
  obtain ⟨y,hy,rfl⟩:=List.mem_map.1 hz
  split
  ·exact wish_md hm ha
  ·exact hm y hy
 ·intro z hz
  rcases List.mem_append.1 hz with hz | hz
  ·exact hm z hz
  ·simp only [List.mem_singleton] at hz
   subst hz
   exact wish_md hm ha
theorem give_len (H:List TL) (a:TL):(giveL H a).length≤H.length+1:=by
 unfold giveL
 split <;> simp
theorem give_ds {H:List TL} {a:TL} (hd:Ds H):Ds (giveL H a):=by
 unfold giveL
 split
 ·unfold Ds
  rw [List.pairwise_map]
  refine hd.imp ?_
  intro x y hxy
  split <;> split <;> exact hxy
 ·rename_i c
  unfold Ds
  rw [List.pairwise_append]
  refine ⟨hd,by simp,fun x hx y hy=>?_⟩
  simp only [List.mem_singleton] at hy
  subst hy
  exact hasTx_false.1 (by simpa using c) x hx
theorem dropQ_len:∀ (Q H:List TL) (g:List Int),(dropQ H Q g).2.2.length≤g.length+Q.length
 | [],H,g=>by simp [dropQ]
 | q :: Q,H,g=>by
  rw [dropQ]
  split
  ·have:=dropQ_len Q (giveL H q) (g++[q.Tx])
   simp only [List.length_append,List.length_cons,List.length_nil] at this ⊢
   omega
  ·simp
section
variable {x:TI} {out:List TI} {i:Int} {go:List TI→List Int→Int→Option (List TI×List Int×Int)}
theorem queue_lock':∀ (Q H:List TL) (g:List Int) (n:Nat),Q.length < n→Mds H→Ds H→Mds Q→H.length+Q.length≤1000→g.length+Q.length≤1000000 →
  M22L2 x out i go n g H Q=M22K6 out x i go (dropQ H Q g).2.2 (dropQ H Q g).1 (dropQ H Q g).2.1:=by
 intro Q
 induction Q with
 | nil =>
  intro H g n hn hm hd hq h1 h2
  obtain ⟨n,rfl⟩:=dec n (by omega)
  rw [M22L2,M22L2B,if_neg (by simp),dropQ]
 | cons q Q ih =>
  intro H g n hn hm hd hq h1 h2
  simp only [List.length_cons] at hn h1 h2
  obtain ⟨n,rfl⟩:=dec n (by omega)
  have e0:idx (q :: Q) 0=some q:=rfl
  have hqm:Md q.Mode:=hq q (by simp)
  have hL:Ln H:=by unfold Ln;omega
  have hcut:cut (q :: Q) 1 (q :: Q).length=some Q:=by
   have:=cut_drop (q :: Q) 1 (by simp)
   simpa using this
  rw [M22L2,M22L2B,if_pos (by simp only [List.length_cons];omega),e0,bind1_some,can_lock ⟨x.Item,H,q :: Q⟩ q hL hm hqm,bind1_some,dropQ]
  have e1:(⟨x.Item,H,q :: Q⟩:TI).Held=H:=rfl
  rw [e1]
  cases c:canS H q with
  | false=>rw [if_neg ff,if_neg ff]
  | true =>
   rw [if_pos rfl,if_pos rfl,M22K7,e0,bind1_some,wish_lock ⟨x.Item,H,q :: Q⟩ q hL hm hqm,bind1_some,e1,give_scan (F:=M22L3 H q (wishS H q) (q :: Q) g (M22L2 x out i go n)) (H:=H) (a:=q) (m:=wishS H q) (by omega) hd (fun l=>M22K8 (q :: Q) g (M22L2 x out i go n) l) (M22K9 H q (wishS H q) (q :: Q) g (M22L2 x out i go n)) (fun n=>?_) (fun n i h=>?_)]
   ·have e2:(if hasTx H q.Tx=true then M22K8 (q :: Q) g (M22L2 x out i go n) (H.map fun h=>if h.Tx=q.Tx then ⟨h.Tx,wishS H q⟩ else h) else M22K9 H q (wishS H q) (q :: Q) g (M22L2 x out i go n))=M22K8 (q :: Q) g (M22L2 x out i go n) (giveL H q):=by
     unfold giveL
     split
     ·rfl
     ·rw [M22K9,app_ok (by simp;omega),bind1_some]
    have hgl:=give_len H q
    rw [e2,M22K8,e0,bind1_some,app_ok (by simp;omega),bind1_some,hcut,bind1_some]
    exact ih (giveL H q) (g++[q.Tx]) n (by omega) (give_mds hm hqm) (give_ds hd) (fun z hz=>hq z (by simp [hz])) (by omega) (by simp;omega)
   ·rw [M22L3,M22L3B,if_neg (by omega)]
   ·rw [M22L3,M22L3B,if_pos (by omega),idx_ok h,bind1_some,bind1_some]
end
section
variable {out:List TI} {i:Int} {go:List TI→List Int→Int→Option (List TI×List Int)}
theorem queue_ref (item:Int):∀ (Q H:List TL) (g:List Int) (n:Nat),Q.length < n→Mds H→Mds Q→H.length+Q.length≤1000→g.length+Q.length≤1000000 →
  M39L2 out i go n g item H Q=M39K5 out i go (dropQ H Q g).2.2 item (dropQ H Q g).1 (dropQ H Q g).2.1:=by
 intro Q
 induction Q with
 | nil =>
  intro H g n hn hm hq h1 h2
  obtain ⟨n,rfl⟩:=dec n (by omega)
  rw [M39L2,M39L2B,if_neg (by simp),dropQ]
 | cons q Q ih =>
  intro H g n hn hm hq h1 h2
  simp only [List.length_cons] at hn h1 h2
  obtain ⟨n,rfl⟩:=dec n (by omega)
  have e0:idx (q :: Q) 0=some q:=rfl
  have hqm:Md q.Mode:=hq q (by simp)
  have hL:Ln H:=by unfold Ln;omega
  have hcut:cut (q :: Q) 1 (q :: Q).length=some Q:=by
   have:=cut_drop (q :: Q) 1 (by simp)
   simpa using this
  have hgl:=give_len H q
  have e1:(⟨item,H,q :: Q⟩:TI).Held=H:=rfl
  rw [M39L2,M39L2B,if_pos (by simp only [List.length_cons];omega),e0,bind1_some,can_ref ⟨item,H,q :: Q⟩ q hL hm hqm,bind1_some,dropQ,e1]
  cases c:canS H q with
  | false=>rw [if_neg ff,if_neg ff]
  | true =>
   have hgq:M69 ⟨item,H,q :: Q⟩ q=some ⟨item,giveL H q,q :: Q⟩:=given_eq ⟨item,H,q :: Q⟩ q (by simp only;omega) hm hqm
   rw [if_pos rfl,if_pos rfl,M39K6,e0,bind1_some,app_ok (by simp;omega),bind1_some,bind1_some,hgq,bind1_some]
   simp only
   rw [hcut,bind1_some]
   exact ih (giveL H q) (g++[q.Tx]) n (by omega) (give_mds hm hqm) (fun z hz=>hq z (by simp [hz])) (by omega) (by simp;omega)
end
theorem without_mds {l:List TL} (h:Mds l) (tx:Int):Mds (without l tx):=fun z hz=>h z (List.mem_filter.1 hz).1
theorem without_ds {l:List TL} (h:Ds l) (tx:Int):Ds (without l tx):=h.filter _
theorem without_len (l:List TL) (tx:Int):(without l tx).length≤l.length:=List.length_filter_le _ _
section
variable {t:List TI} {tx:Int}
theorem items_lock (hg:Good t):∀ (r i:Nat),i+r=t.length→∀ n,r < n→∀ (out:List TI) (g:List Int),out.length≤i→g.length≤12*i →
  M22L1 t tx n out g (i:Nat)=some ((dropT tx (t.drop i) out g).1,(dropT tx (t.drop i) out g).2,0):=by
 have hl:=hg.len
 intro r
 induction r with
 | zero =>
  intro i hi n hn out g ho hgl
  obtain ⟨n,rfl⟩:=dec n hn
  rw [M22L1,M22L1B,if_neg (by omega),M22K3,List.drop_eq_nil_of_le (by omega)]
  rfl
 | succ r ih =>
  intro i hi n hn out g ho hgl
  obtain ⟨n,rfl⟩:=dec n (by omega)
  have h1:i < t.length:=by omega
  have hx:=hg.rt _ (List.getElem_mem h1)
  rw [M22L1,M22L1B,if_pos (by omega),idx_ok h1,bind1_some,drop_cons h1,dropT]
  generalize t[i]=x at hx
  have hh:=hx.hl
  have hq:=hx.ql
  have hwh:=without_len x.Held tx
  have hwq:=without_len x.Queue tx
  have hend:=dropQ_len (without x.Queue tx) (without x.Held tx) g
  rw [del_all (F1:=M22L7 x tx out (i:Nat) (M22L1 t tx n) g) (F:=M22L6 tx x out (i:Nat) (M22L1 t tx n) g) (l0:=x.Held) (keep:=fun a=>!decide (a.Tx=tx)) (z:=⟨0,0⟩) (by omega) (fun l=>M22K10 x tx out (i:Nat) (M22L1 t tx n) g l)
   (fun n l i hll=>?_) (fun n l i j h hll=>?_) (fun n=>?_) (fun n i h=>?_)]
  ·show M22K10 x tx out (i:Nat) (M22L1 t tx n) g (without x.Held tx)=_
   rw [M22K10,del_all (F1:=M22L5 x tx out (i:Nat) (M22L1 t tx n) g (without x.Held tx)) (F:=M22L4 tx x out (i:Nat) (M22L1 t tx n) g (without x.Held tx)) (l0:=x.Queue) (keep:=fun a=>!decide (a.Tx=tx)) (z:=⟨0,0⟩) (by omega) (fun l=>M22K11 x out (i:Nat) (M22L1 t tx n) g (without x.Held tx) l)
    (fun n l i hll=>?_) (fun n l i j h hll=>?_) (fun n=>?_) (fun n i h=>?_)]
   ·rw [M22K11,M22K5]
    have hq2:=queue_lock' (x:=x) (out:=out) (i:=(i:Nat)) (go:=M22L1 t tx n) (without x.Queue tx) (without x.Held tx) g big (lt_big (by omega)) (without_mds hx.hm tx) (without_ds ((ok_iff0 _).1 hx.held).2 tx) (without_mds hx.qm tx) (by omega) (by omega)
    rw [show x.Queue.filter (fun a=>!decide (a.Tx=tx))=without x.Queue tx from rfl,hq2,M22K6]
    generalize dropQ (without x.Held tx) (without x.Queue tx) g=z at hend
    obtain ⟨H,Q,g2⟩:=z
    simp only at hend ⊢
    cases H with
    | nil =>
     rw [if_neg (by simp),M22K4,isucc i (by omega),bind1_some,ih (i+1) (by omega) n (by omega) _ _ (by omega) (by omega)]
     rfl
    | cons y H =>
     rw [if_pos (by simp only [List.length_cons];omega),app_ok (by simp;omega),bind1_some,M22K4,isucc i (by omega),bind1_some,ih (i+1) (by omega) n (by omega) _ _ (by simp;omega) (by omega)]
     rfl
   ·rw [M22L4,M22L4B,if_neg (by omega),M22K14]
   ·rw [M22L4,M22L4B,if_pos (by omega),M22K15,idx_ok h,bind1_some,M22K16]
   ·rw [M22L5,M22L5B,if_neg (by omega),M22K17,M22K12,if_pos rfl]
   ·rw [M22L5,M22L5B,if_pos (by omega),idx_ok h,bind1_some,M22K18,M22K12,if_neg (show ¬((i:Nat):Int)=-1 by omega),M22K13]
    by_cases c:x.Queue[i].Tx=tx <;> simp [c]
  ·rw [M22L6,M22L6B,if_neg (by omega),M22K21]
  ·rw [M22L6,M22L6B,if_pos (by omega),M22K22,idx_ok h,bind1_some,M22K23]
  ·rw [M22L7,M22L7B,if_neg (by omega),M22K24,M22K19,if_pos rfl]
  ·rw [M22L7,M22L7B,if_pos (by omega),idx_ok h,bind1_some,M22K25,M22K19,if_neg (show ¬((i:Nat):Int)=-1 by omega),M22K20]
   by_cases c:x.Held[i].Tx=tx <;> simp [c]
theorem items_ref (hg:Good t):∀ (r i:Nat),i+r=t.length→∀ n,r < n→∀ (out:List TI) (g:List Int),out.length≤i→g.length≤12*i →
  M39L1 t tx n out g (i:Nat)=some (dropT tx (t.drop i) out g):=by
 have hl:=hg.len
 intro r
 induction r with
 | zero =>
  intro i hi n hn out g ho hgl
  obtain ⟨n,rfl⟩:=dec n hn
  rw [M39L1,M39L1B,if_neg (by omega),M39K1,List.drop_eq_nil_of_le (by omega)]
  rfl
 | succ r ih =>
  intro i hi n hn out g ho hgl
  obtain ⟨n,rfl⟩:=dec n (by omega)
  have h1:i < t.length:=by omega
  have hx:=hg.rt _ (List.getElem_mem h1)
  rw [M39L1,M39L1B,if_pos (by omega),idx_ok h1,bind1_some,drop_cons h1,dropT]
  generalize t[i]=x at hx
  have hh:=hx.hl
  have hq:=hx.ql
  have hwh:=without_len x.Held tx
  have hwq:=without_len x.Queue tx
  have hend:=dropQ_len (without x.Queue tx) (without x.Held tx) g
  have s1:=scanS0 (F:=fun m j s=>M39L4 x tx out (i:Nat) (M39L1 t tx n) g m s j) (l:=x.Held) (by omega) (X:=fun _ a s=>.inr (if (!decide (a.Tx=tx))=true then s++[a] else s)) (E:=fun s=>M39K8 x tx out (i:Nat) (M39L1 t tx n) g s) (fun j s=>s.length≤j) (fun m s hs=>?_) (fun m j s hj hs=>?_) (fun j s s' hj hs he=>?_) [] (Nat.le_refl _)
  ·rw [scan_filter,List.nil_append] at s1
   rw [show M39L4 x tx out (i:Nat) (M39L1 t tx n) g big [] 0=_ from s1,M39K8,M39K3]
   have s2:=scanS0 (F:=fun m j s=>M39L3 x tx out (i:Nat) (M39L1 t tx n) g (without x.Held tx) m s j) (l:=x.Queue) (by omega) (X:=fun _ a s=>.inr (if (!decide (a.Tx=tx))=true then s++[a] else s)) (E:=fun s=>M39K7 out (i:Nat) (M39L1 t tx n) g x (without x.Held tx) s) (fun j s=>s.length≤j) (fun m s hs=>?_) (fun m j s hj hs=>?_) (fun j s s' hj hs he=>?_) [] (Nat.le_refl _)
   ·rw [scan_filter,List.nil_append] at s2
    rw [show x.Held.filter (fun a=>!decide (a.Tx=tx))=without x.Held tx from rfl,show M39L3 x tx out (i:Nat) (M39L1 t tx n) g (without x.Held tx) big [] 0=_ from s2,M39K7,M39K4]
    have hq2:=queue_ref (out:=out) (i:=(i:Nat)) (go:=M39L1 t tx n) x.Item (without x.Queue tx) (without x.Held tx) g big (lt_big (by omega)) (without_mds hx.hm tx) (without_mds hx.qm tx) (by omega) (by omega)
    rw [show x.Queue.filter (fun a=>!decide (a.Tx=tx))=without x.Queue tx from rfl,hq2,M39K5]
    generalize dropQ (without x.Held tx) (without x.Queue tx) g=z at hend
    obtain ⟨H,Q,g2⟩:=z
    simp only at hend ⊢
    cases H with
    | nil =>
     rw [if_neg (by simp),M39K2,isucc i (by omega),bind1_some,ih (i+1) (by omega) n (by omega) _ _ (by omega) (by omega)]
     rfl
    | cons y H =>
     rw [if_pos (by simp only [List.length_cons];omega),app_ok (by simp;omega),bind1_some,M39K2,isucc i (by omega),bind1_some,ih (i+1) (by omega) n (by omega) _ _ (by simp;omega) (by omega)]
     rfl
   ·show M39L3 x tx out (i:Nat) (M39L1 t tx n) g (without x.Held tx) (m+1) s (x.Queue.length:Nat)=_
    rw [M39L3,M39L3B,if_neg (by omega)]
   ·show M39L3 x tx out (i:Nat) (M39L1 t tx n) g (without x.Held tx) (m+1) s (j:Nat)=_
    rw [M39L3,M39L3B,if_pos (by omega),idx_ok hj,bind1_some,isucc j (by omega)]
    by_cases c:x.Queue[j].Tx=tx
    ·simp [c]
    ·rw [if_pos c,app_ok (by simp;omega)];simp [c]
   ·cases he
    split
    ·simp;omega
    ·omega
  ·show M39L4 x tx out (i:Nat) (M39L1 t tx n) g (m+1) s (x.Held.length:Nat)=_
   rw [M39L4,M39L4B,if_neg (by omega)]
  ·show M39L4 x tx out (i:Nat) (M39L1 t tx n) g (m+1) s (j:Nat)=_
   rw [M39L4,M39L4B,if_pos (by omega),idx_ok hj,bind1_some,isucc j (by omega)]
   by_cases c:x.Held[j].Tx=tx
   ·simp [c]
   ·rw [if_pos c,app_ok (by simp;omega)];simp [c]
  ·cases he
   split
   ·simp;omega
   ·omega
theorem drop_lock (hg:Good t) (h0:0≤tx) (h1:tx≤11):M22 t tx=some ((dropS t tx).1,(dropS t tx).2,0):=by
 have hl:=hg.len
 have hchk:=check_lock t (by unfold Ln;omega) (fun x hx=>by
  have:=(hg.rt x hx).hl
  have:=(hg.rt x hx).ql
  unfold Ln;omega)
 rw [(good_iff t).2 hg] at hchk
 rw [M22,hchk,bind1_some,if_neg (by simp),M22K1,if_neg (by omega),if_neg (by omega),M22K2,copied_eq hl (fun x hx=>⟨(hg.rt x hx).hl,(hg.rt x hx).ql⟩),bind1_some]
 have:=items_lock (tx:=tx) hg t.length 0 (by omega) big (lt_big (by omega)) [] [] (by simp) (by simp)
 rw [List.drop_zero] at this
 exact this
theorem drop_ref (hg:Good t):M39 t tx=some (dropS t tx):=by
 have hl:=hg.len
 rw [M39]
 have:=items_ref (tx:=tx) hg t.length 0 (by omega) big (lt_big (by omega)) [] [] (by simp) (by simp)
 rw [List.drop_zero] at this
 exact this
end
end Go.Proofs.YtlecphianicdhaaGreat
end
section
namespace Go.Proofs.YtlecphianicdhaaGreat
open Go.S
set_option linter.unusedVariables false
set_option linter.unusedSimpArgs false
theorem len0 {α:Type}:((([]:List α).length:Nat):Int)=0:=rfl
abbrev Sz (t:List TI) (n:Nat):Prop:=t.length≤n∧∀ x∈t,x.Held.length≤24∧x.Queue.length≤24
theorem dropQ_sz:∀ (Q H:List TL) (g:List Int),(dropQ H Q g).1.length≤H.length+Q.length∧(dropQ H Q g).2.1.length≤Q.length
 | [],H,g=>by simp [dropQ]
 | q :: Q,H,g=>by
  rw [dropQ]
  split
  ·have h1:=dropQ_sz Q (giveL H q) (g++[q.Tx])
   have h2:=give_len H q
   simp only [List.length_cons]
   omega
  ·simp
theorem dropT_sz (tx:Int):∀ (t out:List TI) (g:List Int) (n:Nat),(∀ x∈t,Rt x)→Sz out n→Sz (dropT tx t out g).1 (n+t.length)∧(dropT tx t out g).2.length≤g.length+12*t.length
 | [],out,g,n,h,ho=>⟨ho,by simp [dropT]⟩
 | x :: t,out,g,n,h,ho=>by
  have hx:=h x (by simp)
  have h1:=hx.hl
  have h2:=hx.ql
  have h3:=without_len x.Held tx
  have h4:=without_len x.Queue tx
  have h5:=dropQ_sz (without x.Queue tx) (without x.Held tx) g
  have h6:=dropQ_len (without x.Queue tx) (without x.Held tx) g
  rw [dropT]
  have ho':Sz (if (dropQ (without x.Held tx) (without x.Queue tx) g).1.isEmpty=true then out else out++[⟨x.Item,(dropQ (without x.Held tx) (without x.Queue tx) g).1,(dropQ (without x.Held tx) (without x.Queue tx) g).2.1⟩]) (n+1):=by
   split
   ·exact ⟨by have:=ho.1;omega,ho.2⟩
   ·refine ⟨by have:=ho.1;simp;omega,fun y hy=>?_⟩
    rcases List.mem_append.1 hy with hy | hy
    ·exact ho.2 y hy
    ·rw [List.mem_singleton] at hy
     subst hy
     simp only
     omega
  obtain ⟨g1,g2⟩:=dropT_sz tx t _ (dropQ (without x.Held tx) (without x.Queue tx) g).2.2 (n+1) (fun y hy=>h y (by simp [hy])) ho'
  refine ⟨⟨by have:=g1.1;simp only [List.length_cons];omega,g1.2⟩,?_⟩
  simp only [List.length_cons]
  omega
theorem drop_sz {t:List TI} (hg:Good t) (tx:Int):Sz (dropS t tx).1 20∧(dropS t tx).2.length≤240:=by
 have hl:=hg.len
 obtain ⟨h1,h2⟩:=dropT_sz tx t [] [] 0 hg.rt (by simp [Sz])
 exact ⟨⟨by have:=h1.1;unfold dropS;omega,h1.2⟩,by unfold dropS;simp only [List.length_nil] at h2;omega⟩
section
variable {t:List TI} {tx item mode:Int}
end
end Go.Proofs.YtlecphianicdhaaGreat
end
section
namespace Go.Proofs.YtlecphianicdhaaGreat
open Go.S
set_option linter.unusedVariables false
set_option linter.unusedSimpArgs false
theorem ok_sub {l l':List TL} (h:okS [] l=true) (hs:l'.Sublist l):okS [] l'=true:=by
 obtain ⟨h1,h2⟩:=(ok_iff0 l).1 h
 exact (ok_iff0 l').2 ⟨fun a ha=>h1 a (hs.subset ha),h2.sublist hs⟩
theorem pair_sub {l l':List TL} (h:pairS l=true) (hs:l'.Sublist l):pairS l'=true:=(pair_iff l').2 (((pair_iff l).1 h).sublist hs)
theorem can_iff (H:List TL) (a:TL):canS H a=true↔∀ h∈H,h.Tx≠a.Tx→fitS (wishS H a) h.Mode=true:=by
 unfold canS
 rw [List.all_eq_true]
 refine ⟨fun h x hx hne=>?_,fun h x hx=>?_⟩
 ·have:=h x hx
  simpa [hne] using this
 ·by_cases c:x.Tx=a.Tx
  ·simp [c]
  ·simp [h x hx c]
theorem give_ok {H:List TL} {a:TL} (ho:okS [] H=true) (hp:pairS H=true) (ha:lvB a=true) (hc:canS H a=true):okS [] (giveL H a)=true∧pairS (giveL H a)=true:=by
 obtain ⟨h1,h2⟩:=(ok_iff0 H).1 ho
 have hm:=ok_mds _ _ ho
 obtain ⟨a0,a1,a2⟩:=(lv_iff a).1 ha
 have hw:=wish_md hm a2
 rw [can_iff] at hc
 rw [pair_iff] at hp
 refine ⟨(ok_iff0 _).2 ⟨fun z hz=>?_,give_ds h2⟩,(pair_iff _).2 ?_⟩
 ·unfold giveL at hz
  split at hz
  ·obtain ⟨y,hy,rfl⟩:=List.mem_map.1 hz
   obtain ⟨g0,g1,g2⟩:=(lv_iff y).1 (h1 y hy)
   split
   ·exact (lv_iff _).2 ⟨g0,g1,hw⟩
   ·exact h1 y hy
  ·rcases List.mem_append.1 hz with hz | hz
   ·exact h1 z hz
   ·rw [List.mem_singleton] at hz
    subst hz
    exact (lv_iff _).2 ⟨a0,a1,hw⟩
 ·unfold giveL
  split
  ·rw [List.pairwise_map]
   refine List.Pairwise.imp_of_mem ?_ (hp.and h2)
   rintro x y hx hy ⟨g1,g2⟩
   by_cases c1:x.Tx=a.Tx
   ·rw [if_pos c1,if_neg (by omega)]
    exact hc y hy (by omega)
   ·rw [if_neg c1]
    by_cases c2:y.Tx=a.Tx
    ·rw [if_pos c2,fit_symm]
     exact hc x hx c1
    ·rw [if_neg c2];exact g1
  ·rename_i c
   rw [List.pairwise_append]
   refine ⟨hp,by simp,fun x hx y hy=>?_⟩
   rw [List.mem_singleton] at hy
   subst hy
   rw [fit_symm]
   exact hc x hx (hasTx_false.1 (by simpa using c) x hx)
theorem find_same {H:List TL} {a:TL} {m:Int} (t:Int) (h:t≠a.Tx):(H.map fun h=>if h.Tx=a.Tx then (⟨h.Tx,m⟩:TL) else h).find? (fun h=>decide (h.Tx=t))=H.find? fun h=>decide (h.Tx=t):=by
 induction H with
 | nil=>rfl
 | cons y H ih =>
  rw [List.map_cons,List.find?_cons,List.find?_cons]
  by_cases c:y.Tx=a.Tx
  ·rw [if_pos c,ih]
   simp only [show decide (y.Tx=t)=false by simp;omega]
  ·rw [if_neg c,ih]
theorem head_keep {H:List TL} {a q:TL} (ho:okS [] H=true) (ha:Md a.Mode) (hq:Md q.Mode) (hne:q.Tx≠a.Tx) (hh:hasTx H a.Tx=true) (h:canS H q=false):canS (giveL H a) q=false:=by
 obtain ⟨h1,h2⟩:=(ok_iff0 H).1 ho
 have hm:=ok_mds _ _ ho
 have hw:wishS (giveL H a) q=wishS H q:=by
  unfold wishS giveL
  rw [if_pos hh,find_same q.Tx hne]
 rw [← Bool.not_eq_true,can_iff] at h ⊢
 intro hall
 apply h
 intro x hx hxq
 rw [hw] at hall
 by_cases c:x.Tx=a.Tx
 ·have hmem:(⟨x.Tx,wishS H a⟩:TL)∈giveL H a:=by
   unfold giveL
   rw [if_pos hh]
   exact List.mem_map.2 ⟨x,hx,by rw [if_pos c]⟩
  have h3:=hall _ hmem hxq
  have h4:wishS H a=joinS x.Mode a.Mode:=by
   unfold wishS
   have h5:H.find? (fun h=>decide (h.Tx=a.Tx))=some x:=by
    clear hall h hmem h3 hw hh
    induction H with
    | nil=>cases hx
    | cons y H ih =>
     obtain ⟨g1,g2⟩:=List.pairwise_cons.1 h2
     rw [List.find?_cons]
     rcases List.mem_cons.1 hx with rfl | hx
     ·simp [c]
     ·have:=g1 x hx
      rw [show decide (y.Tx=a.Tx)=false by simp;omega]
      exact ih ((ok_iff0 H).2 ⟨fun z hz=>h1 z (by simp [hz]),g2⟩) (fun z hz=>h1 z (by simp [hz])) g2 (fun z hz=>hm z (by simp [hz])) hx
   rw [h5]
  rw [h4] at h3
  cases h6:fitS (wishS H q) x.Mode with
  | true=>rfl
  | false =>
   rw [fit_join (wish_md hm hq) (hm x hx) ha h6] at h3
   cases h3
 ·refine hall x ?_ hxq
  unfold giveL
  rw [if_pos hh]
  exact List.mem_map.2 ⟨x,hx,by rw [if_neg c]⟩
theorem mk_rt {x:TI} (i0:0≤x.Item) (i1:x.Item≤19) (ne:x.Held≠[]) (h1:okS [] x.Held=true) (h2:okS [] x.Queue=true) (h3:pairS x.Held=true) (h4:headS x.Held x.Queue=true):Rt x :=
 ⟨i0,i1,ne,by unfold lineS;rw [h1,h2,h3,h4];rfl⟩
theorem give_ne {H:List TL} {a:TL} (h:H≠[]):giveL H a≠[]:=by
 unfold giveL
 split
 ·simpa using h
 ·simp
theorem asked_rt {x:TI} {a:TL} (hx:Rt x) (ha:lvB a=true) (hn:hasTx x.Queue a.Tx=false):Rt (askedS x a).1:=by
 have hq:=(ok_iff0 _).1 hx.queue
 obtain ⟨a0,a1,a2⟩:=(lv_iff a).1 ha
 have hnq:=hasTx_false.1 hn
 unfold askedS
 by_cases c:(canS x.Held a && (hasTx x.Held a.Tx || x.Queue.isEmpty))=true
 ·rw [if_pos c]
  simp only [Bool.and_eq_true,Bool.or_eq_true] at c
  obtain ⟨g1,g2⟩:=give_ok hx.held hx.pair ha c.1
  refine mk_rt hx.i0 hx.i1 (give_ne hx.ne) g1 hx.queue g2 ?_
  simp only
  have hh:=hx.head
  revert hh hnq
  cases hQ:x.Queue with
  | nil=>intro _ _;rfl
  | cons q Q =>
   intro hnq hh
   unfold headS at hh ⊢
   simp only [Bool.not_eq_true'] at hh ⊢
   have hhas:hasTx x.Held a.Tx=true:=by
    rcases c.2 with h | h
    ·exact h
    ·rw [hQ] at h;cases h
   exact head_keep hx.held a2 (hx.qm q (by rw [hQ];simp)) (hnq q (by simp)) hhas hh
 ·rw [if_neg c]
  have hlate:okS [] (lateS x.Held x.Queue a)=true:=by
   refine (ok_iff0 _).2 ?_
   unfold lateS
   split
   ·generalize cntS x.Held x.Queue=k
    refine ⟨fun z hz=>?_,?_⟩
    ·simp only [List.mem_append,List.mem_singleton] at hz
     rcases hz with (hz | rfl) | hz
     ·exact hq.1 z (List.mem_of_mem_take hz)
     ·exact ha
     ·exact hq.1 z (List.mem_of_mem_drop hz)
    ·unfold Ds
     rw [List.append_assoc,List.pairwise_append,List.singleton_append,List.pairwise_cons]
     have h0:=hq.2
     unfold Ds at h0
     rw [← List.take_append_drop k x.Queue,List.pairwise_append] at h0
     refine ⟨h0.1,⟨fun z hz=>(hnq z (List.mem_of_mem_drop hz)).symm,h0.2.1⟩,fun z hz y hy=>?_⟩
     rcases List.mem_cons.1 hy with rfl | hy
     ·exact hnq z (List.mem_of_mem_take hz)
     ·exact h0.2.2 z hz y hy
   ·refine ⟨fun z hz=>?_,?_⟩
    ·rcases List.mem_append.1 hz with hz | hz
     ·exact hq.1 z hz
     ·rw [List.mem_singleton] at hz;rw [hz];exact ha
    ·unfold Ds
     rw [List.pairwise_append]
     refine ⟨hq.2,by simp,fun z hz y hy=>?_⟩
     rw [List.mem_singleton] at hy
     rw [hy];exact hnq z hz
  refine mk_rt hx.i0 hx.i1 hx.ne hx.held hlate hx.pair ?_
  simp only
  have hh:=hx.head
  simp only [Bool.and_eq_true,Bool.or_eq_true,not_and,not_or] at c
  unfold lateS
  by_cases c2:hasTx x.Held a.Tx=true
  ·rw [if_pos c2]
   have hcan:canS x.Held a=false:=by
    cases h:canS x.Held a with
    | false=>rfl
    | true=>exact absurd c2 (c h).1
   cases hk:cntS x.Held x.Queue with
   | zero=>simp [headS,hcan]
   | succ k =>
    cases hQ:x.Queue with
    | nil=>rw [hQ] at hk;simp [cntS] at hk
    | cons q Q =>
     rw [hQ] at hh
     simpa [headS] using hh
  ·rw [if_neg c2]
   cases hQ:x.Queue with
   | nil =>
    have hcan:canS x.Held a=false:=by
     cases h:canS x.Held a with
     | false=>rfl
     | true =>
      have:=(c h).2
      rw [hQ] at this
      exact absurd rfl this
    simp [headS,hcan]
   | cons q Q =>
    rw [hQ] at hh
    simpa [headS] using hh
theorem new_rt {item:Int} {a:TL} (h0:0≤item) (h1:item≤19) (ha:lvB a=true):Rt ⟨item,[a],[]⟩ :=
 mk_rt h0 h1 (by simp) (by simp [okS,ha,hasTx]) rfl (by simp [pairS]) rfl
theorem asked_item (x:TI) (a:TL):(askedS x a).1.Item=x.Item:=by unfold askedS;split <;> rfl
theorem ins_good {item:Int} {a:TL} (h0:0≤item) (h1:item≤19) (ha:lvB a=true):∀ {t:List TI},(∀ x∈t,Rt x)→Asc t→(∀ x∈t,hasTx x.Queue a.Tx=false) →
  (∀ x∈(insS item a t).1,Rt x)∧Asc (insS item a t).1∧∀ y∈(insS item a t).1,y.Item=item∨∃ x∈t,x.Item=y.Item
 | [],_,_,_=>by
  exact ⟨by simpa [insS] using new_rt h0 h1 ha,by simp [insS],by simp [insS]⟩
 | x :: t,hr,hs,hn=>by
  obtain ⟨s1,s2⟩:=List.pairwise_cons.1 hs
  rw [insS]
  by_cases c1:item < x.Item
  ·rw [if_pos c1]
   refine ⟨fun y hy=>?_,?_,fun y hy=>?_⟩
   ·rcases List.mem_cons.1 hy with rfl | hy
    ·exact new_rt h0 h1 ha
    ·exact hr y hy
   ·refine List.pairwise_cons.2 ⟨fun y hy=>?_,hs⟩
    rcases List.mem_cons.1 hy with rfl | hy
    ·exact c1
    ·have:=s1 y hy
     show item < y.Item
     omega
   ·rcases List.mem_cons.1 hy with rfl | hy
    ·exact .inl rfl
    ·exact .inr ⟨y,hy,rfl⟩
  rw [if_neg c1]
  by_cases c2:x.Item=item
  ·rw [if_pos c2]
   have ei:=asked_item x a
   refine ⟨fun y hy=>?_,List.pairwise_cons.2 ⟨fun y hy=>by rw [ei];exact s1 y hy,s2⟩,fun y hy=>?_⟩
   ·rcases List.mem_cons.1 hy with rfl | hy
    ·exact asked_rt (hr x (by simp)) ha (hn x (by simp))
    ·exact hr y (by simp [hy])
   ·rcases List.mem_cons.1 hy with rfl | hy
    ·exact .inr ⟨x,by simp,ei.symm⟩
    ·exact .inr ⟨y,by simp [hy],rfl⟩
  rw [if_neg c2]
  obtain ⟨g1,g2,g3⟩:=ins_good h0 h1 ha (t:=t) (fun y hy=>hr y (by simp [hy])) s2 (fun y hy=>hn y (by simp [hy]))
  refine ⟨fun y hy=>?_,List.pairwise_cons.2 ⟨fun y hy=>?_,g2⟩,fun y hy=>?_⟩
  ·rcases List.mem_cons.1 hy with rfl | hy
   ·exact hr y (by simp)
   ·exact g1 y hy
  ·rcases g3 y hy with h | ⟨z,hz,h⟩
   ·omega
   ·have:=s1 z hz;omega
  ·rcases List.mem_cons.1 hy with rfl | hy
   ·exact .inr ⟨y,by simp,rfl⟩
   ·rcases g3 y hy with h | ⟨z,hz,h⟩
    ·exact .inl h
    ·exact .inr ⟨z,by simp [hz],h⟩
theorem asc_len {t:List TI} (hr:∀ x∈t,Rt x) (hs:Asc t):t.length≤20:=by
 have h1:(t.map TI.Item).Nodup:=by
  rw [List.Nodup,List.pairwise_map]
  exact hs.imp fun h=>by omega
 have h3:(t.map TI.Item) ⊆ (List.range 20).map fun i:Nat=>(i:Int):=by
  intro i hi
  obtain ⟨x,hx,rfl⟩:=List.mem_map.1 hi
  have:=(hr x hx).i0
  have:=(hr x hx).i1
  exact List.mem_map.2 ⟨x.Item.toNat,List.mem_range.2 (by omega),by omega⟩
 have:=h1.length_le_of_subset h3
 simpa using this
theorem ask_good {t:List TI} {tx item mode:Int} (hg:Good t) (ht0:0≤tx) (ht1:tx≤11) (h0:0≤item) (h1:item≤19) (hm:Md mode) (he:(askS t tx item mode).2.2=0):Good (askS t tx item mode).1:=by
 unfold askS at he ⊢
 split at he
 ·cases he
 rename_i c
 rw [if_neg c]
 have hn:∀ x∈t,hasTx x.Queue tx=false:=by
  simpa using c
 obtain ⟨g1,g2,_⟩:=ins_good (item:=item) (a:=⟨tx,mode⟩) h0 h1 ((lv_iff _).2 ⟨ht0,ht1,hm⟩) hg.rt hg.asc hn
 exact ⟨asc_len g1 g2,g1,g2⟩
theorem dropQ_ok:∀ (Q H:List TL) (g:List Int),okS [] H=true→pairS H=true→okS [] Q=true→okS [] (dropQ H Q g).1=true∧pairS (dropQ H Q g).1=true∧okS [] (dropQ H Q g).2.1=true∧headS (dropQ H Q g).1 (dropQ H Q g).2.1=true
 | [],H,g,h1,h2,h3=>⟨h1,h2,h3,rfl⟩
 | q :: Q,H,g,h1,h2,h3=>by
  rw [dropQ]
  cases c:canS H q with
  | false=>rw [if_neg ff];exact ⟨h1,h2,h3,by simp [headS,c]⟩
  | true =>
   rw [if_pos rfl]
   obtain ⟨g1,g2⟩:=give_ok h1 h2 (((ok_iff0 _).1 h3).1 q (by simp)) c
   exact dropQ_ok Q _ _ g1 g2 (ok_sub h3 (List.sublist_cons_self _ _))
theorem dropT_good (tx:Int):∀ (t out:List TI) (g:List Int),(∀ x∈t,Rt x)→Asc t→(∀ y∈out,Rt y)→Asc out→(∀ y∈out,∀ x∈t,y.Item < x.Item)→(∀ y∈(dropT tx t out g).1,Rt y)∧Asc (dropT tx t out g).1
 | [],out,g,_,_,h3,h4,_=>⟨h3,h4⟩
 | x :: t,out,g,h1,h2,h3,h4,h5=>by
  obtain ⟨s1,s2⟩:=List.pairwise_cons.1 h2
  have hx:=h1 x (by simp)
  obtain ⟨g1,g2,g3,g4⟩:=dropQ_ok (without x.Queue tx) (without x.Held tx) g (ok_sub hx.held List.filter_sublist) (pair_sub hx.pair List.filter_sublist) (ok_sub hx.queue List.filter_sublist)
  rw [dropT]
  generalize dropQ (without x.Held tx) (without x.Queue tx) g=z at *
  obtain ⟨H,Q,g'⟩:=z
  simp only at *
  cases H with
  | nil=>exact dropT_good tx t out g' (fun y hy=>h1 y (by simp [hy])) s2 h3 h4 fun y hy z hz=>h5 y hy z (by simp [hz])
  | cons a H =>
   refine dropT_good tx t _ g' (fun y hy=>h1 y (by simp [hy])) s2 (fun y hy=>?_) ?_ fun y hy z hz=>?_
   ·rcases List.mem_append.1 hy with hy | hy
    ·exact h3 y hy
    ·rw [List.mem_singleton] at hy
     rw [hy]
     exact mk_rt hx.i0 hx.i1 (by simp) g1 g3 g2 g4
   ·show Asc (out++_)
    unfold Asc
    rw [List.pairwise_append]
    refine ⟨h4,by simp,fun y hy z hz=>?_⟩
    rw [List.mem_singleton] at hz
    rw [hz]
    exact h5 y hy x (by simp)
   ·rcases List.mem_append.1 hy with hy | hy
    ·exact h5 y hy z (by simp [hz])
    ·rw [List.mem_singleton] at hy
     rw [hy]
     exact s1 z hz
theorem drop_good {t:List TI} (hg:Good t) (tx:Int):Good (dropS t tx).1:=by
 obtain ⟨h1,h2⟩:=dropT_good tx t [] [] hg.rt hg.asc (by simp) (by simp) (by simp)
 exact ⟨asc_len h1 h2,h1,h2⟩
end Go.Proofs.YtlecphianicdhaaGreat
end
section
namespace Go.Proofs.YtlecphianicdhaaGreat
open Go.S
set_option linter.unusedVariables false
set_option linter.unusedSimpArgs false
def rowE (T:Int→Int→Bool) (a:Int):Nat→Nat→List TE
 | _,0=>[]
 | b,r+1=>(if T a (b:Int)=true then [⟨a,(b:Int)⟩] else [])++rowE T a (b+1) r
def allE (T:Int→Int→Bool):Nat→Nat→List TE
 | _,0=>[]
 | a,r+1=>rowE T (a:Int) 0 12++allE T (a+1) r
theorem rowE_len (T:Int→Int→Bool) (a:Int):∀ r b:Nat,(rowE T a b r).length≤r
 | 0,b=>by simp [rowE]
 | r+1,b=>by
  have:=rowE_len T a r (b+1)
  rw [rowE,List.length_append]
  split <;> simp <;> omega
theorem allE_len (T:Int→Int→Bool):∀ r a:Nat,(allE T a r).length≤12*r
 | 0,a=>by simp [allE]
 | r+1,a=>by
  have h1:=allE_len T r (a+1)
  have h2:=rowE_len T (a:Int) 12 0
  rw [allE,List.length_append]
  omega
theorem rowE_ext {T U:Int→Int→Bool} {a:Int}:∀ (r b:Nat),(∀ c:Int,(b:Int)≤c→c < b+r→T a c=U a c)→rowE T a b r=rowE U a b r
 | 0,b,_=>rfl
 | r+1,b,h=>by rw [rowE,rowE,h b (by omega) (by omega),rowE_ext r (b+1) fun c h1 h2=>h c (by omega) (by omega)]
theorem allE_ext {T U:Int→Int→Bool}:∀ (r a:Nat),(∀ c d:Int,(a:Int)≤c→c < a+r→0≤d→d < 12→T c d=U c d)→allE T a r=allE U a r
 | 0,a,_=>rfl
 | r+1,a,h=>by
  rw [allE,allE,rowE_ext 12 0 fun c h1 h2=>h a c (by omega) (by omega) (by omega) (by omega),allE_ext r (a+1) fun c d h1 h2=>h c d (by omega) (by omega)]
theorem idx2_tab {α:Type} {f:Int→α} {a b:Int} (h0:0≤a) (h1:a < 12) (g0:0≤b) (g1:b < 12):idx2 12 (tab 144 f) a b=some (f (a*12+b)):=by
 unfold idx2
 rw [if_pos ⟨h0,g0,by omega⟩]
 exact tab_idx (by omega) (by omega)
theorem rng_ok {n:Nat} {a:Int} (h0:0≤a) (h1:a < n):rng n a=some ():=if_pos ⟨h0,h1⟩
def hitH (H:List TL) (w h:TL) (c:Int):Bool:=decide (c=w.Tx*12+h.Tx) && decide (h.Tx≠w.Tx) && !fitS (wishS H w) h.Mode
def hitQ (w v:TL) (c:Int):Bool:=decide (c=w.Tx*12+v.Tx)
def qTab (x:TI):Nat→List TL→Int→Bool
 | _,[],_=>false
 | i,w :: Q,c=>(x.Held.any fun h=>hitH x.Held w h c) || ((x.Queue.take i).any fun v=>hitQ w v c) || qTab x (i+1) Q c
def tTab:List TI→Int→Bool
 | [],_=>false
 | x :: t,c=>qTab x 0 x.Queue c || tTab t c
section
variable {x:TI} {w:TL} {g:Int} {go:Int→List Bool→Option (List TE×Int)}
theorem tx_in {l:List TL} (h:okS [] l=true) {a:TL} (ha:a∈l):0≤a.Tx∧a.Tx < 12:=by
 have:=(lv_iff _).1 (((ok_iff0 l).1 h).1 a ha)
 omega
theorem held_loop (hx:Rt x) (hw:w∈x.Queue):∀ (r j:Nat),j+r=x.Held.length→∀ (f:Int→Bool) n,r < n →
  M37L6 x w (wishS x.Held w) g go n (j:Nat) (tab 144 f)=M37K7 x g w go (tab 144 fun c=>f c || (x.Held.drop j).any fun h=>hitH x.Held w h c):=by
 have hl:=hx.hl
 obtain ⟨w0,w1⟩:=tx_in hx.queue hw
 intro r
 induction r with
 | zero =>
  intro j hj f n hn
  obtain ⟨n,rfl⟩:=dec n hn
  rw [M37L6,M37L6B,if_neg (by omega),List.drop_eq_nil_of_le (by omega)]
  congr 1
  apply tab_ext
  intro c _ _
  simp
 | succ r ih =>
  intro j hj f n hn
  obtain ⟨n,rfl⟩:=dec n (by omega)
  have h1:j < x.Held.length:=by omega
  have hm:=List.getElem_mem h1
  obtain ⟨g0,g1⟩:=tx_in hx.held hm
  have hmode:=hx.hm _ hm
  rw [M37L6,M37L6B,if_pos (by omega),idx_ok h1,bind1_some]
  have hfin:∀ f':Int→Bool,(∀ c,f' c=(f c || hitH x.Held w x.Held[j] c))→M37L6 x w (wishS x.Held w) g go n ((j+1:Nat):Int) (tab 144 f')=M37K7 x g w go (tab 144 fun c=>f c || (x.Held.drop j).any fun h=>hitH x.Held w h c):=by
   intro f' hf
   rw [ih (j+1) (by omega) f' n (by omega)]
   congr 1
   apply tab_ext
   intro c _ _
   rw [drop_cons h1,List.any_cons,hf,Bool.or_assoc]
  generalize x.Held[j]=h at *
  rw [rng_ok w0 w1,bind1_some,rng_ok g0 g1,bind1_some,tab_idx (by omega) (by omega),bind1_some,isucc j (by omega)]
  by_cases c1:f (w.Tx*(12:Nat)+h.Tx)=true
  ·rw [if_pos c1,bind1_some,bind1_some,bind1_some,tab_upd _ (by omega) (by omega),bind1_some,bind1_some]
   refine hfin _ fun c=>?_
   by_cases c2:c=w.Tx*(12:Nat)+h.Tx
   ·rw [if_pos c2,c2,c1];rfl
   ·rw [if_neg c2]
    have:hitH x.Held w h c=false:=by unfold hitH;rw [show decide (c=w.Tx*12+h.Tx)=false by simpa using c2];rfl
    rw [this,Bool.or_false]
  ·rw [if_neg c1]
   have c1':f (w.Tx*(12:Nat)+h.Tx)=false:=by simpa using c1
   by_cases c3:h.Tx=w.Tx
   ·rw [if_neg (by simpa using c3),bind1_some,bind1_some,bind1_some,tab_upd _ (by omega) (by omega),bind1_some,bind1_some]
    refine hfin _ fun c=>?_
    have:hitH x.Held w h c=false:=by unfold hitH;rw [show decide (h.Tx≠w.Tx)=false by simpa using c3];simp
    rw [this,Bool.or_false]
    by_cases c2:c=w.Tx*(12:Nat)+h.Tx
    ·rw [if_pos c2,c2,c1']
    ·rw [if_neg c2]
   ·obtain ⟨ff',zz,e1,e2,e3⟩:=fits_bits (wish_md hx.hm (hx.qm w hw)) hmode
    rw [if_pos c3,bind1_some,e1,bind1_some,e2,bind1_some,bind1_some,bind1_some,tab_upd _ (by omega) (by omega),bind1_some,bind1_some,e3]
    refine hfin _ fun c=>?_
    unfold hitH
    by_cases c2:c=w.Tx*(12:Nat)+h.Tx
    ·rw [if_pos c2,show decide (c=w.Tx*12+h.Tx)=true by simpa using c2,c2,c1']
     simp [c3]
    ·rw [if_neg c2,show decide (c=w.Tx*12+h.Tx)=false by simpa using c2]
     simp
theorem front_loop (hx:Rt x) (hw:w∈x.Queue) (L:List TL) (hL:∀ v∈L,v∈x.Queue) (hl:L.length≤12):∀ (r j:Nat),j+r=L.length→∀ (f:Int→Bool) n,r < n →
  M37L5 L w g go n (j:Nat) (tab 144 f)=M37K6 g go (tab 144 fun c=>f c || (L.drop j).any fun v=>hitQ w v c):=by
 obtain ⟨w0,w1⟩:=tx_in hx.queue hw
 intro r
 induction r with
 | zero =>
  intro j hj f n hn
  obtain ⟨n,rfl⟩:=dec n hn
  rw [M37L5,M37L5B,if_neg (by omega),List.drop_eq_nil_of_le (by omega)]
  congr 1
  apply tab_ext
  intro c _ _
  simp
 | succ r ih =>
  intro j hj f n hn
  obtain ⟨n,rfl⟩:=dec n (by omega)
  have h1:j < L.length:=by omega
  obtain ⟨g0,g1⟩:=tx_in hx.queue (hL _ (List.getElem_mem h1))
  rw [M37L5,M37L5B,if_pos (by omega),idx_ok h1,bind1_some,rng_ok w0 w1,bind1_some,rng_ok g0 g1,bind1_some,tab_idx (by omega) (by omega),bind1_some,tab_upd _ (by omega) (by omega),bind1_some,isucc j (by omega),bind1_some,ih (j+1) (by omega) _ n (by omega)]
  congr 1
  apply tab_ext
  intro c _ _
  rw [drop_cons h1,List.any_cons]
  unfold hitQ
  by_cases c2:c=w.Tx*(12:Nat)+L[j].Tx
  ·rw [if_pos c2,show decide (c=w.Tx*12+L[j].Tx)=true by simpa using c2];simp
  ·rw [if_neg c2,show decide (c=w.Tx*12+L[j].Tx)=false by simpa using c2];simp
theorem wait_loop (hx:Rt x) (go3:Int→List Bool→Option (List TE×Int)):∀ (r i:Nat),i+r=x.Queue.length→∀ (f:Int→Bool) n,r < n →
  M37L4 x g go3 n (i:Nat) (tab 144 f)=M37K5 g go3 (tab 144 fun c=>f c || qTab x i (x.Queue.drop i) c):=by
 have hl:=hx.hl
 have hq:=hx.ql
 intro r
 induction r with
 | zero =>
  intro i hi f n hn
  obtain ⟨n,rfl⟩:=dec n hn
  rw [M37L4,M37L4B,if_neg (by omega),List.drop_eq_nil_of_le (by omega)]
  congr 1
  apply tab_ext
  intro c _ _
  simp [qTab]
 | succ r ih =>
  intro i hi f n hn
  obtain ⟨n,rfl⟩:=dec n (by omega)
  have h1:i < x.Queue.length:=by omega
  have hw:=List.getElem_mem h1
  have h2:=held_loop (g:=(i:Nat)) (go:=M37L4 x g go3 n) hx hw x.Held.length 0 (by omega) f big (lt_big (by omega))
  rw [show ((0:Nat):Int)=0 from rfl,List.drop_zero] at h2
  rw [M37L4,M37L4B,if_pos (by omega),idx_ok h1,bind1_some,wish_lock x _ (by unfold Ln;omega) hx.hm (hx.qm _ hw),bind1_some,h2,M37K7,cut_take _ _ (by omega),bind1_some]
  have h3:=front_loop (g:=(i:Nat)) (go:=M37L4 x g go3 n) hx hw (x.Queue.take i) (fun v hv=>List.mem_of_mem_take hv) (by rw [List.length_take];omega) (x.Queue.take i).length 0 (by omega) (fun c=>f c || x.Held.any fun h=>hitH x.Held x.Queue[i] h c) big (lt_big (by rw [List.length_take];omega))
  rw [show ((0:Nat):Int)=0 from rfl,List.drop_zero] at h3
  rw [h3,M37K6,isucc i (by omega),bind1_some,ih (i+1) (by omega) _ n (by omega)]
  congr 1
  apply tab_ext
  intro c _ _
  rw [drop_cons h1,qTab,Bool.or_assoc,Bool.or_assoc,Bool.or_assoc]
end
section
variable {t:List TI}
theorem table_loop (hg:Good t):∀ (r i:Nat),i+r=t.length→∀ (f:Int→Bool) n,r < n →
  M37L3 t n (i:Nat) (tab 144 f)=M37K2 (tab 144 fun c=>f c || tTab (t.drop i) c):=by
 have hl:=hg.len
 intro r
 induction r with
 | zero =>
  intro i hi f n hn
  obtain ⟨n,rfl⟩:=dec n hn
  rw [M37L3,M37L3B,if_neg (by omega),List.drop_eq_nil_of_le (by omega)]
  congr 1
  apply tab_ext
  intro c _ _
  simp [tTab]
 | succ r ih =>
  intro i hi f n hn
  obtain ⟨n,rfl⟩:=dec n (by omega)
  have h1:i < t.length:=by omega
  have hx:=hg.rt _ (List.getElem_mem h1)
  have h2:=wait_loop (g:=(i:Nat)) hx (M37L3 t n) t[i].Queue.length 0 (by omega) f big (lt_big (by have:=hx.ql;omega))
  rw [show ((0:Nat):Int)=0 from rfl,List.drop_zero] at h2
  rw [M37L3,M37L3B,if_pos (by omega),idx_ok h1,bind1_some,h2,M37K5,isucc i (by omega),bind1_some,ih (i+1) (by omega) _ n (by omega)]
  congr 1
  apply tab_ext
  intro c _ _
  rw [drop_cons h1,tTab,Bool.or_assoc]
theorem listL2 (f:Int→Bool) (a:Nat) (ha:a < 12) (go1:List TE→Int→Option (List TE×Int)):∀ (r b:Nat),b+r=12→∀ acc:List TE,acc.length+r≤10000→∀ n,r < n →
  M37L2 (a:Int) (tab 144 f) go1 n acc (b:Int)=M37K4 (a:Int) go1 (acc++rowE (fun a b=>f (a*12+b)) (a:Int) b r):=by
 intro r
 induction r with
 | zero =>
  intro b hb acc hacc n hn
  obtain ⟨n,rfl⟩:=dec n hn
  rw [M37L2,M37L2B,if_neg (by omega),rowE,List.append_nil]
 | succ r ih =>
  intro b hb acc hacc n hn
  obtain ⟨n,rfl⟩:=dec n (by omega)
  rw [M37L2,M37L2B,if_pos (by omega),rng_ok (by omega) (by omega),bind1_some,idx2_tab (by omega) (by omega) (by omega) (by omega),bind1_some,rowE]
  by_cases c:f ((a:Int)*12+(b:Int))=true
  ·rw [if_pos c,if_pos c,app_ok (by simp;omega),bind1_some,isucc b (by omega),bind1_some,ih (b+1) (by omega) _ (by simp;omega) n (by omega),List.append_assoc]
  ·rw [if_neg c,if_neg c,isucc b (by omega),bind1_some,ih (b+1) (by omega) _ (by omega) n (by omega),List.nil_append]
theorem listL1 (f:Int→Bool):∀ (r a:Nat),a+r=12→∀ acc:List TE,acc.length≤12*a→∀ n,r < n →
  M37L1 (tab 144 f) n acc (a:Int)=some (acc++allE (fun a b=>f (a*12+b)) a r,0):=by
 intro r
 induction r with
 | zero =>
  intro a ha acc hacc n hn
  obtain ⟨n,rfl⟩:=dec n hn
  rw [M37L1,M37L1B,if_neg (by omega),M37K3,allE,List.append_nil]
 | succ r ih =>
  intro a ha acc hacc n hn
  obtain ⟨n,rfl⟩:=dec n (by omega)
  have h2:=listL2 f a (by omega) (M37L1 (tab 144 f) n) 12 0 (by omega) acc (by omega) big (lt_big (by omega))
  have h4:(acc++rowE (fun a b=>f (a*12+b)) (a:Int) 0 12).length≤12*(a+1):=by
   have h3:=rowE_len (fun a b=>f (a*12+b)) (a:Int) 12 0
   rw [List.length_append];omega
  rw [show ((0:Nat):Int)=0 from rfl] at h2
  rw [M37L1,M37L1B,if_pos (by omega),h2,M37K4,isucc a (by omega),bind1_some,ih (a+1) (by omega) _ h4 n (by omega),allE,List.append_assoc]
def rq (x:TI) (a b:Int):Nat→List TL→Bool
 | _,[]=>false
 | i,w :: Q=>if w.Tx=a then decide (a≠b) && (hasTx (x.Queue.take i) b || (hasTx x.Held b && !fitS (wishS x.Held w) (holdsS x.Held b))) else rq x a b (i+1) Q
def refW (t:List TI) (a b:Int):Bool:=t.any fun x=>rq x a b 0 x.Queue
theorem rest_no {x:TI} {a b:Int} (hb0:0≤b) (hb1:b < 12) (hx:Rt x):∀ (L:List TL) (i:Nat),(∀ w∈L,w.Tx≠a)→qTab x i L (a*12+b)=false
 | [],i,_=>rfl
 | w :: L,i,h=>by
  have hw:=h w (by simp)
  rw [qTab,rest_no hb0 hb1 hx L (i+1) fun v hv=>h v (by simp [hv]),Bool.or_false]
  have e1:(x.Held.any fun h=>hitH x.Held w h (a*12+b))=false:=by
   rw [List.any_eq_false]
   intro z hz
   obtain ⟨g0,g1⟩:=tx_in hx.held hz
   unfold hitH
   rw [show decide (a*12+b=w.Tx*12+z.Tx)=false by simp;omega]
   simp
  have e2:((x.Queue.take i).any fun v=>hitQ w v (a*12+b))=false:=by
   rw [List.any_eq_false]
   intro z hz
   obtain ⟨g0,g1⟩:=tx_in hx.queue (List.mem_of_mem_take hz)
   unfold hitQ
   rw [show decide (a*12+b=w.Tx*12+z.Tx)=false by simp;omega]
   simp
  rw [e1,e2];rfl
theorem held_at {H:List TL} (hd:Ds H) (b:Int) (p:Int→Bool):(H.any fun h=>decide (h.Tx=b) && p h.Mode)=(hasTx H b && p (holdsS H b)):=by
 induction H with
 | nil=>rfl
 | cons y H ih =>
  obtain ⟨h1,h2⟩:=List.pairwise_cons.1 hd
  have ih:=ih h2
  unfold hasTx holdsS at *
  rw [List.any_cons,List.any_cons,List.find?_cons]
  by_cases c:y.Tx=b
  ·have e:(H.any fun h=>decide (h.Tx=b) && p h.Mode)=false:=by
    rw [List.any_eq_false]
    intro z hz
    have:=h1 z hz
    rw [show decide (z.Tx=b)=false by simp;omega]
    simp
   rw [e]
   simp [c]
  ·simp only [c,decide_false,Bool.false_and,Bool.false_or]
   exact ih
theorem q_eq {x:TI} {a b:Int} (hb0:0≤b) (hb1:b < 12) (hx:Rt x):∀ (r i:Nat),i+r=x.Queue.length→qTab x i (x.Queue.drop i) (a*12+b)=rq x a b i (x.Queue.drop i):=by
 have hqd:=((ok_iff0 _).1 hx.queue).2
 have hhd:=((ok_iff0 _).1 hx.held).2
 intro r
 induction r with
 | zero=>intro i hi;rw [List.drop_eq_nil_of_le (by omega)];rfl
 | succ r ih =>
  intro i hi
  have h1:i < x.Queue.length:=by omega
  rw [drop_cons h1,qTab,rq]
  by_cases c:x.Queue[i].Tx=a
  ·have hlater:∀ w∈x.Queue.drop (i+1),w.Tx≠a:=by
    intro w hw
    obtain ⟨q,hq,rfl⟩:=List.getElem_of_mem hw
    rw [List.getElem_drop]
    rw [List.length_drop] at hq
    have:=List.pairwise_iff_getElem.1 hqd i (i+1+q) h1 (by omega) (by omega)
    omega
   have hfront:∀ w∈x.Queue.take i,w.Tx≠a:=by
    intro w hw
    obtain ⟨q,hq,rfl⟩:=List.getElem_of_mem hw
    rw [List.getElem_take]
    rw [List.length_take] at hq
    have:=List.pairwise_iff_getElem.1 hqd q i (by omega) h1 (by omega)
    omega
   rw [if_pos c,rest_no hb0 hb1 hx _ _ hlater,Bool.or_false]
   have e1:(x.Held.any fun h=>hitH x.Held x.Queue[i] h (a*12+b))=(decide (a≠b) && (hasTx x.Held b && !fitS (wishS x.Held x.Queue[i]) (holdsS x.Held b))):=by
    rw [← held_at hhd b fun m=>!fitS (wishS x.Held x.Queue[i]) m]
    by_cases c2:a=b
    ·rw [show decide (a≠b)=false by simpa using c2,Bool.false_and,List.any_eq_false]
     intro z hz
     obtain ⟨g0,g1⟩:=tx_in hx.held hz
     unfold hitH
     by_cases c3:z.Tx=x.Queue[i].Tx
     ·rw [show decide (z.Tx≠x.Queue[i].Tx)=false by simpa using c3];simp
     ·rw [show decide (a*12+b=x.Queue[i].Tx*12+z.Tx)=false by simp;omega];simp
    ·rw [show decide (a≠b)=true by simpa using c2,Bool.true_and]
     congr 1
     funext z
     unfold hitH
     by_cases c3:z.Tx=b
     ·rw [show decide (a*12+b=x.Queue[i].Tx*12+z.Tx)=true by simp;omega,show decide (z.Tx≠x.Queue[i].Tx)=true by simp;omega,show decide (z.Tx=b)=true by simpa using c3];rfl
     ·rw [show decide (a*12+b=x.Queue[i].Tx*12+z.Tx)=false by simp;omega,show decide (z.Tx=b)=false by simpa using c3];simp
   have e2:((x.Queue.take i).any fun v=>hitQ x.Queue[i] v (a*12+b))=(decide (a≠b) && hasTx (x.Queue.take i) b):=by
    have e3:(fun v:TL=>hitQ x.Queue[i] v (a*12+b))=fun v=>decide (v.Tx=b):=by
     funext v
     unfold hitQ
     rw [decide_eq_decide]
     omega
    rw [e3]
    by_cases c2:a=b
    ·rw [show decide (a≠b)=false by simpa using c2,Bool.false_and,List.any_eq_false]
     intro z hz
     have:=hfront z hz
     simp;omega
    ·rw [show decide (a≠b)=true by simpa using c2,Bool.true_and];rfl
   rw [e1,e2,← Bool.and_or_distrib_left,Bool.or_comm]
  ·rw [if_neg c,← ih (i+1) (by omega)]
   have:=rest_no (a:=a) hb0 hb1 hx [x.Queue[i]] i (by intro w hw;rw [List.mem_singleton] at hw;rw [hw];exact c)
   rw [qTab,qTab,Bool.or_false] at this
   rw [this,Bool.false_or]
theorem t_eq (hg:Good t) {a b:Int} (hb0:0≤b) (hb1:b < 12):tTab t (a*12+b)=refW t a b:=by
 have key:∀ s:List TI,(∀ x∈s,Rt x)→tTab s (a*12+b)=s.any fun x=>rq x a b 0 x.Queue:=by
  intro s
  induction s with
  | nil=>intro _;rfl
  | cons x s ih =>
   intro h
   have h2:=q_eq (a:=a) hb0 hb1 (h x (by simp)) x.Queue.length 0 (by omega)
   rw [List.drop_zero] at h2
   rw [tTab,List.any_cons,h2,ih fun y hy=>h y (by simp [hy])]
 exact key t hg.rt
def waitsS (t:List TI):List TE:=allE (refW t) 0 12
theorem waits_lock (hg:Good t):M37 t=some (waitsS t,0):=by
 have hl:=hg.len
 have hchk:=check_lock t (by unfold Ln;omega) (fun x hx=>by
  have:=(hg.rt x hx).hl
  have:=(hg.rt x hx).ql
  unfold Ln;omega)
 rw [(good_iff t).2 hg] at hchk
 have h1:=table_loop hg t.length 0 (by omega) (fun _=>false) big (lt_big (by omega))
 rw [show ((0:Nat):Int)=0 from rfl,List.drop_zero] at h1
 have h2:=listL1 (fun c=>false || tTab t c) 12 0 (by omega) [] (by simp) big (lt_big (by omega))
 rw [show ((0:Nat):Int)=0 from rfl] at h2
 rw [M37,hchk,bind1_some,if_neg (by simp),M37K1,tab_repl,h1,M37K2,h2,List.nil_append,waitsS]
 congr 2
 exact allE_ext 12 0 fun c d h3 h4 h5 h6=>by rw [Bool.false_or];exact t_eq hg h5 h6
section
variable {a b:Int} {acc:List TE} {go2:List TE→Int→Option (List TE)}
theorem ref_item (hg:Good t) (i:Nat) (hi:i < t.length) (hb0:0≤b) (go3:Bool→Int→Option (List TE)) (is:Bool):M20L4 t[i] a (i:Nat) go3 is b big 0=go3 (is || rq t[i] a b 0 t[i].Queue) ((i+1:Nat):Int):=by
 have hl:=hg.len
 have hx:=hg.rt _ (List.getElem_mem hi)
 have hh:=hx.hl
 have hq:=hx.ql
 have hs:=isucc i (by omega)
 generalize t[i]=x at *
 have key:∀ (r j:Nat),j+r=x.Queue.length→∀ n,r < n→M20L4 x a (i:Nat) go3 is b n (j:Nat)=go3 (is || rq x a b j (x.Queue.drop j)) ((i+1:Nat):Int):=by
  intro r
  induction r with
  | zero =>
   intro j hj n hn
   obtain ⟨n,rfl⟩:=dec n hn
   rw [M20L4,M20L4B,if_neg (by omega),M20K9,M20K5,if_pos (by omega),hs,bind1_some,List.drop_eq_nil_of_le (by omega),rq,Bool.or_false]
  | succ r ih =>
   intro j hj n hn
   obtain ⟨n,rfl⟩:=dec n (by omega)
   have h1:j < x.Queue.length:=by omega
   have hw:=List.getElem_mem h1
   rw [M20L4,M20L4B,if_pos (by omega),idx_ok h1,bind1_some,M20K10,drop_cons h1,rq]
   by_cases c:x.Queue[j].Tx=a
   ·rw [if_pos (by simpa using c),if_pos c,M20K5,if_neg (by omega)]
    by_cases c2:a=b
    ·rw [if_pos c2,hs,bind1_some,show decide (a≠b)=false by simpa using c2];simp
    rw [if_neg c2,M20K6,holds_eq _ (by unfold Ln;omega),bind1_some,show decide (a≠b)=true by simpa using c2,Bool.true_and]
    have tail:∀ z:Bool,M20K7 (i:Nat) go3 (holdsS x.Held b) x (j:Nat) z=go3 (z || (hasTx x.Held b && !fitS (wishS x.Held x.Queue[j]) (holdsS x.Held b))) ((i+1:Nat):Int):=by
     intro z
     rw [M20K7,hs]
     cases z with
     | true=>simp
     | false =>
      rw [if_neg ff,idx_ok h1,bind1_some,wish_ref x _ (by unfold Ln;omega) hx.hm (hx.qm _ hw),bind1_some,fits_ref,bind1_some]
      cases c3:hasTx x.Held b with
      | true =>
       rw [if_pos ((holds_pos hx.hm _).2 c3)]
       cases fitS (wishS x.Held x.Queue[j]) (holdsS x.Held b) <;> simp [M20K8,hs]
      | false =>
       rw [if_neg (by rw [holds_pos hx.hm,c3];simp)]
       simp [M20K8,hs]
    cases is with
    | true=>rw [if_pos rfl,tail];simp
    | false =>
     rw [if_neg ff,cut_take _ _ (by omega),bind1_some,holds_eq _ (by unfold Ln;rw [List.length_take];omega),bind1_some,tail,tail]
     cases c4:hasTx (x.Queue.take j) b with
     | true=>rw [if_pos ((holds_pos (mds_take hx.qm j) _).2 c4)];simp
     | false=>rw [if_neg (by rw [holds_pos (mds_take hx.qm j),c4];simp)];simp
   ·rw [if_neg (by simpa using c),if_neg c,isucc j (by omega),bind1_some]
    exact ih (j+1) (by omega) n (by omega)
 have:=key x.Queue.length 0 (by omega) big (lt_big (by omega))
 simpa using this
theorem ref_is (hg:Good t) (hb0:0≤b):∀ (r i:Nat),i+r=t.length→∀ n,r < n→∀ is:Bool,M20L3 t a b acc go2 n is (i:Nat)=M20K4 acc a b go2 (is || (t.drop i).any fun x=>rq x a b 0 x.Queue):=by
 intro r
 induction r with
 | zero =>
  intro i hi n hn is
  obtain ⟨n,rfl⟩:=dec n hn
  rw [M20L3,M20L3B,if_neg (by omega),List.drop_eq_nil_of_le (by omega)]
  simp
 | succ r ih =>
  intro i hi n hn is
  obtain ⟨n,rfl⟩:=dec n (by omega)
  have h1:i < t.length:=by omega
  rw [M20L3,M20L3B,if_pos (by omega),idx_ok h1,bind1_some,ref_item hg i h1 hb0,ih (i+1) (by omega) n (by omega),drop_cons h1,List.any_cons,Bool.or_assoc]
end
theorem refL2 (hg:Good t) (a:Nat) (ha:a < 12) (go1:List TE→Int→Option (List TE)):∀ (r b:Nat),b+r=12→∀ acc:List TE,acc.length+r≤10000→∀ n,r < n →
  M20L2 t (a:Int) go1 n acc (b:Int)=M20K2 (a:Int) go1 (acc++rowE (refW t) (a:Int) b r):=by
 have hl:=hg.len
 intro r
 induction r with
 | zero =>
  intro b hb acc hacc n hn
  obtain ⟨n,rfl⟩:=dec n hn
  rw [M20L2,M20L2B,if_neg (by omega),rowE,List.append_nil]
 | succ r ih =>
  intro b hb acc hacc n hn
  obtain ⟨n,rfl⟩:=dec n (by omega)
  have h2:=ref_is (a:=(a:Int)) (b:=(b:Int)) (acc:=acc) (go2:=M20L2 t (a:Int) go1 n) hg (by omega) t.length 0 (by omega) big (lt_big (by omega)) false
  rw [show ((0:Nat):Int)=0 from rfl,List.drop_zero,Bool.false_or] at h2
  rw [M20L2,M20L2B,if_pos (by omega),h2,M20K4,rowE,show (t.any fun x=>rq x (a:Int) (b:Int) 0 x.Queue)=refW t (a:Int) (b:Int) from rfl]
  by_cases c:refW t (a:Int) (b:Int)=true
  ·rw [if_pos c,if_pos c,app_ok (by simp;omega),bind1_some,M20K3,isucc b (by omega),bind1_some,ih (b+1) (by omega) _ (by simp;omega) n (by omega),List.append_assoc]
  ·rw [if_neg c,if_neg c,M20K3,isucc b (by omega),bind1_some,ih (b+1) (by omega) _ (by omega) n (by omega),List.nil_append]
theorem refL1 (hg:Good t):∀ (r a:Nat),a+r=12→∀ acc:List TE,acc.length≤12*a→∀ n,r < n →
  M20L1 t n acc (a:Int)=some (acc++allE (refW t) a r):=by
 intro r
 induction r with
 | zero =>
  intro a ha acc hacc n hn
  obtain ⟨n,rfl⟩:=dec n hn
  rw [M20L1,M20L1B,if_neg (by omega),M20K1,allE,List.append_nil]
 | succ r ih =>
  intro a ha acc hacc n hn
  obtain ⟨n,rfl⟩:=dec n (by omega)
  have h2:=refL2 hg a (by omega) (M20L1 t n) 12 0 (by omega) acc (by omega) big (lt_big (by omega))
  have h4:(acc++rowE (refW t) (a:Int) 0 12).length≤12*(a+1):=by
   have h3:=rowE_len (refW t) (a:Int) 12 0
   rw [List.length_append];omega
  rw [show ((0:Nat):Int)=0 from rfl] at h2
  rw [M20L1,M20L1B,if_pos (by omega),h2,M20K2,isucc a (by omega),bind1_some,ih (a+1) (by omega) _ h4 n (by omega),allE,List.append_assoc]
theorem waits_ref (hg:Good t):M20 t=some (waitsS t):=by
 have h2:=refL1 hg 12 0 (by omega) [] (by simp) big (lt_big (by omega))
 rw [M20]
 exact h2
end
end Go.Proofs.YtlecphianicdhaaGreat
end
section
namespace Go.Proofs.YtlecphianicdhaaGreat
open Go.S
set_option linter.unusedVariables false
set_option linter.unusedSimpArgs false
theorem mk_ok {α:Type} {n:Nat} (z:α) (h:n≤1000000):mk (n:Int) z=some (List.replicate n z):=by
 unfold mk
 rw [if_pos ⟨by omega,by omega⟩,Int.toNat_natCast]
theorem xSort_ok {l:List Int} (h:l.length < 4611686018427387904):xSort l=some (srt l):=if_pos h
theorem xCompact_ok {l:List Int} (h:l.length < 4611686018427387904):xCompact l=some (Go.Lib.compact l):=if_pos h
theorem srt_mem {l:List Int} {x:Int}:x∈srt l↔x∈l:=by unfold srt;exact List.mem_mergeSort
def InR (n:Nat) (es:List TE):Prop:=∀ e∈es,0≤e.From∧e.From < n∧0≤e.To∧e.To < n
def outs:List TE→Int→List Int
 | [],_=>[]
 | e :: es,x=>(if e.From=x then [e.To] else [])++outs es x
theorem outs_mem {x y:Int}:∀ {es:List TE},y∈outs es x↔(⟨x,y⟩:TE)∈es
 | []=>by simp [outs]
 | e :: es=>by
  rw [outs,List.mem_append,outs_mem (es:=es),List.mem_cons]
  by_cases c:e.From=x
  ·rw [if_pos c,List.mem_singleton]
   constructor
   ·rintro (h | h)
    ·left;rw [← c,h]
    ·exact .inr h
   ·rintro (h | h)
    ·left;rw [← h]
    ·exact .inr h
  ·rw [if_neg c]
   constructor
   ·rintro (h | h)
    ·cases h
    ·exact .inr h
   ·rintro (h | h)
    ·exact absurd (by rw [← h]) c
    ·exact .inr h
theorem outs_len (x:Int):∀ es:List TE,(outs es x).length≤es.length
 | []=>by simp [outs]
 | e :: es=>by
  have:=outs_len x es
  rw [outs,List.length_append,List.length_cons]
  split <;> simp <;> omega
theorem gcheckL (n:Nat) (es:List TE) (hl:es.length≤2000) (h:InR n es):∀ (r i:Nat),i+r=es.length→∀ m,r < m→M62L1 es (n:Int) m (i:Int)=some 0:=by
 intro r
 induction r with
 | zero =>
  intro i hi m hm
  obtain ⟨m,rfl⟩:=dec m hm
  rw [M62L1,M62L1B,if_neg (by omega),M62K3]
 | succ r ih =>
  intro i hi m hm
  obtain ⟨m,rfl⟩:=dec m (by omega)
  have h1:i < es.length:=by omega
  obtain ⟨g1,g2,g3,g4⟩:=h es[i] (List.getElem_mem h1)
  rw [M62L1,M62L1B,if_pos (by omega),idx_ok h1,bind1_some,if_neg (by omega),if_neg (by omega),M62K4,if_neg ff,if_neg (by omega),if_neg (by omega),isucc i (by omega),bind1_some,ih (i+1) (by omega) m (by omega)]
theorem gcheck (n:Nat) (hn:n≤60) (es:List TE) (hl:es.length≤2000) (h:InR n es):M62 (n:Int) es=some 0:=by
 rw [M62,if_neg (by omega),if_neg (by omega),M62K1,if_neg (by omega),M62K2]
 exact gcheckL n es hl h es.length 0 (by omega) big (lt_big (by omega))
theorem nextL2 (n:Nat) (es:List TE) (hl:es.length≤2000) (h:InR n es):∀ (r i:Nat),i+r=es.length→∀ f:Int→List Int,(∀ x,(f x).length≤i)→∀ m,r < m →
  M77L2 es m (tab n f) (i:Int)=M77K1 (tab n fun x=>f x++outs (es.drop i) x):=by
 intro r
 induction r with
 | zero =>
  intro i hi f hf m hm
  obtain ⟨m,rfl⟩:=dec m hm
  rw [M77L2,M77L2B,if_neg (by omega),List.drop_eq_nil_of_le (by omega)]
  congr 1
  apply tab_ext
  intro x _ _
  simp [outs]
 | succ r ih =>
  intro i hi f hf m hm
  obtain ⟨m,rfl⟩:=dec m (by omega)
  have h1:i < es.length:=by omega
  obtain ⟨g1,g2,g3,g4⟩:=h es[i] (List.getElem_mem h1)
  have hfl:=hf es[i].From
  rw [M77L2,M77L2B,if_pos (by omega),idx_ok h1,bind1_some,tab_idx g1 g2,bind1_some,app_ok (by simp;omega),bind1_some,bind1_some,tab_upd _ g1 g2,bind1_some,isucc i (by omega),bind1_some,ih (i+1) (by omega) _ (fun x=>?_) m (by omega)]
  ·congr 1
   apply tab_ext
   intro x _ _
   rw [drop_cons h1,outs]
   by_cases c:x=es[i].From
   ·rw [if_pos c,if_pos c.symm,c,List.append_assoc]
   ·rw [if_neg c,if_neg (Ne.symm c),List.nil_append]
  ·show (if x=es[i].From then f es[i].From++[es[i].To] else f x).length≤i+1
   have:=hf x
   split
   ·simp;omega
   ·omega
def suc (es:List TE) (x:Int):List Int:=Go.Lib.compact (srt (outs es x))
theorem suc_mem {es:List TE} {x y:Int}:y∈suc es x↔(⟨x,y⟩:TE)∈es:=by
 unfold suc
 rw [compact_mem,srt_mem,outs_mem]
theorem suc_len (es:List TE) (x:Int):(suc es x).length≤es.length:=by
 unfold suc
 have h1:=compact_len (srt (outs es x))
 have h2:=srt_length (outs es x)
 have h3:=outs_len x es
 omega
theorem nextL1 (n:Nat) (hn:n≤60) (gl1:List (List Int)) (hg:gl1.length=n) (f:Int→List Int) (hf:∀ x,(f x).length≤2000):∀ (r i:Nat),i+r=n→∀ m,r < m →
  M77L1 gl1 m (tab n fun x=>if x < i then Go.Lib.compact (srt (f x)) else f x) (i:Int)=some (tab n fun x=>Go.Lib.compact (srt (f x))):=by
 intro r
 induction r with
 | zero =>
  intro i hi m hm
  obtain ⟨m,rfl⟩:=dec m hm
  rw [M77L1,M77L1B,if_neg (by omega),M77K2]
  congr 1
  apply tab_ext
  intro x _ _
  rw [if_pos (by omega)]
 | succ r ih =>
  intro i hi m hm
  obtain ⟨m,rfl⟩:=dec m (by omega)
  have h0:(0:Int)≤(i:Int):=by omega
  have h2:(i:Int) < (n:Nat):=by omega
  have hl1:=hf i
  have hl2:=srt_length (f i)
  rw [M77L1,M77L1B,if_pos (by omega),tab_idx h0 h2,bind1_some,if_neg (by omega),xSort_ok (by omega),bind1_some,tab_upd _ h0 h2,bind1_some,tab_idx h0 h2,bind1_some,if_pos rfl,xCompact_ok (by omega),bind1_some,bind1_some,tab_upd _ h0 h2,bind1_some,isucc i (by omega),bind1_some,← ih (i+1) (by omega) m (by omega)]
  congr 1
  apply tab_ext
  intro x _ _
  by_cases c:x=i
  ·rw [if_pos c,if_pos (by omega),c]
  ·rw [if_neg c,if_neg c]
   by_cases c2:x < i
   ·rw [if_pos c2,if_pos (by omega)]
   ·rw [if_neg c2,if_neg (by omega)]
theorem next_eq (n:Nat) (hn:n≤60) (es:List TE) (hl:es.length≤2000) (h:InR n es):M77 (n:Int) es=some (tab n (suc es)):=by
 have h1:=nextL2 n es hl h es.length 0 (by omega) (fun _=>[]) (by simp) big (lt_big (by omega))
 have h2:=nextL1 n hn (tab n (outs es)) (tab_length ..) (outs es) (fun x=>Nat.le_trans (outs_len x es) hl) n 0 (by omega) big (lt_big (by omega))
 have e1:(tab n fun x:Int=>([]:List Int)++outs (es.drop 0) x)=tab n (outs es):=tab_ext fun x _ _=>by simp
 have e2:(tab n fun x:Int=>if x < ((0:Nat):Int) then Go.Lib.compact (srt (outs es x)) else outs es x)=tab n (outs es):=tab_ext fun x h0 _=>by rw [if_neg (by omega)]
 rw [e1,show ((0:Nat):Int)=0 from rfl] at h1
 rw [e2,show ((0:Nat):Int)=0 from rfl] at h2
 rw [M77,mk_ok _ (by omega),bind1_some,tab_repl,h1,M77K1,h2]
 rfl
def cnt (S:Int→List Int) (D:Int→Bool) (x:Int):Nat→Int
 | 0=>0
 | p+1=>cnt S D x p+if D (p:Int)=true then 0 else ((S (p:Int)).count x:Int)
def fstI (P:Int→Bool):Nat→Nat→Int
 | _,0=>-1
 | i,r+1=>if P (i:Int)=true then (i:Int) else fstI P (i+1) r
def allI (P:Int→Bool):Nat→Nat→Bool
 | _,0=>true
 | i,r+1=>P (i:Int) && allI P (i+1) r
def tt {α:Type} (n:Nat) (C:Int→Int→α):List (List α):=tab n fun i=>tab n (C i)
def refReady (n:Nat) (D:Int→Bool) (C:Int→Int→Bool) (k:Int):Bool:=!D k && allI (fun j=>D j || !C j k) 0 n
end Go.Proofs.YtlecphianicdhaaGreat
end
section
namespace Go.Proofs.YtlecphianicdhaaGreat
open Go.S
set_option linter.unusedVariables false
set_option linter.unusedSimpArgs false
def Ed (es:List TE) (i j:Int):Prop:=(⟨i,j⟩:TE)∈es
abbrev TC (es:List TE):=Relation.TransGen (Ed es)
theorem TC.trans {es:List TE} {i j k:Int} (h1:TC es i j) (h2:TC es j k):TC es i k:=by
 induction h2 with
 | single h=>exact .tail h1 h
 | tail _ h ih=>exact .tail ih h
def Sound (es:List TE) (C:Int→Int→Bool):Prop:=∀ i j,C i j=true→TC es i j
def Holds (es:List TE) (C:Int→Int→Bool):Prop:=∀ e∈es,C e.From e.To=true
theorem tt_idx {α:Type} {n:Nat} {C:Int→Int→α} {i:Int} (h0:0≤i) (h1:i < n):idx (tt n C) i=some (tab n (C i)):=tab_idx h0 h1
theorem tt_upd {α:Type} {n:Nat} {C:Int→Int→α} {i j:Int} (v:α) (h0:0≤i) (h1:i < n) (g:Int→α):upd (tt n C) i (tab n g)=some (tt n fun i'=>if i'=i then g else C i'):=by
 unfold tt
 rw [tab_upd _ h0 h1]
 congr 1
 apply tab_ext
 intro x _ _
 show (if x=i then tab n g else tab n (C x))=tab n (if x=i then g else C x)
 by_cases c:x=i
 ·rw [if_pos c,if_pos c]
 ·rw [if_neg c,if_neg c]
def put (C:Int→Int→Bool) (i j:Int) (b:Bool):Int→Int→Bool:=fun i'=>if i'=i then (fun j'=>if j'=j then b else C i j') else C i'
theorem put_at (C:Int→Int→Bool) (i j:Int) (b:Bool) (i' j':Int):put C i j b i' j'=if i'=i∧j'=j then b else C i' j':=by
 unfold put
 by_cases c:i'=i
 ·rw [if_pos c]
  by_cases c2:j'=j
  ·rw [if_pos c2,if_pos ⟨c,c2⟩]
  ·rw [if_neg c2,if_neg (fun h=>c2 h.2),c]
 ·rw [if_neg c,if_neg (fun h=>c h.1)]
theorem put_ok {n:Nat} {C:Int→Int→Bool} {i j:Int} (b:Bool) (h0:0≤i) (h1:i < n) (g0:0≤j) (g1:j < n):∃ z,upd (tab n (C i)) j b=some z∧upd (tt n C) i z=some (tt n (put C i j b)):=by
 refine ⟨_,tab_upd b g0 g1,?_⟩
 rw [tt_upd (j:=j) b h0 h1]
 rfl
def Pk (es:List TE):Nat→Int→Int→Prop
 | 0,i,j=>Ed es i j
 | k+1,i,j=>Pk es k i j∨(Pk es k i (k:Int)∧Pk es k (k:Int) j)
theorem Pk.edge {es:List TE} {i j:Int} (h:Ed es i j):∀ k,Pk es k i j
 | 0=>h
 | k+1=>.inl (Pk.edge h k)
theorem Pk.rng {n:Nat} {es:List TE} (hR:InR n es):∀ {k:Nat} {i j:Int},Pk es k i j→0≤i∧i < n∧0≤j∧j < n
 | 0,i,j,h=>hR _ h
 | k+1,i,j,.inl h=>Pk.rng hR h
 | k+1,i,j,.inr ⟨h1,h2⟩=>⟨(Pk.rng hR h1).1,(Pk.rng hR h1).2.1,(Pk.rng hR h2).2.2⟩
theorem Pk.via {es:List TE} {i j l:Int} (j0:0≤j):∀ {k:Nat},j < k→Pk es k i j→Pk es k j l→Pk es k i l
 | 0,hj,_,_=>absurd hj (by omega)
 | k+1,hj,h1,h2=>by
  by_cases c:j=k
  ·rw [c] at h1 h2
   have a1:Pk es k i (k:Int):=by
    rcases h1 with h | h
    ·exact h
    ·exact h.1
   have a2:Pk es k (k:Int) l:=by
    rcases h2 with h | h
    ·exact h
    ·exact h.2
   exact .inr ⟨a1,a2⟩
  ·have hj':j < k:=by omega
   rcases h1 with h1 | ⟨h1,h1'⟩ <;> rcases h2 with h2 | ⟨h2,h2'⟩
   ·exact .inl (Pk.via j0 hj' h1 h2)
   ·exact .inr ⟨Pk.via j0 hj' h1 h2,h2'⟩
   ·exact .inr ⟨h1,Pk.via j0 hj' h1' h2⟩
   ·exact .inr ⟨h1,h2'⟩
theorem Pk.of_tc {n:Nat} {es:List TE} (hR:InR n es) {i j:Int} (h:TC es i j):Pk es n i j:=by
 induction h with
 | single h=>exact Pk.edge h n
 | tail _ h ih =>
  obtain ⟨_,_,h1,h2⟩:=Pk.rng hR ih
  exact Pk.via h1 h2 ih (Pk.edge h n)
def Full (es:List TE) (k:Nat) (C:Int→Int→Bool):Prop:=∀ i j,Pk es k i j→C i j=true
def Grow (C C':Int→Int→Bool):Prop:=∀ i j,C i j=true→C' i j=true
theorem closeL3 (n:Nat) (hn:n≤60) (es:List TE) (i k:Nat) (hi:i < n) (hk:k < n) (go2:List (List Bool)→Int→Option (List (List Bool))):∀ (r j:Nat),j+r=n→∀ C,Sound es C→Full es k C→∀ m,r < m →
  ∃ C',Sound es C'∧Full es k C'∧Grow C C'∧(∀ q:Int,j≤q→q < n→Pk es (k+1) i q→C' i q=true)∧M43L3 (n:Int) (i:Int) (k:Int) go2 m (tt n C) (j:Int)=M43K5 (i:Int) go2 (tt n C'):=by
 intro r
 induction r with
 | zero =>
  intro j hj C hS hF m hm
  obtain ⟨m,rfl⟩:=dec m hm
  exact ⟨C,hS,hF,fun _ _ h=>h,fun q h1 h2=>by omega,by rw [M43L3,M43L3B,if_neg (by omega)]⟩
 | succ r ih =>
  intro j hj C hS hF m hm
  obtain ⟨m,rfl⟩:=dec m (by omega)
  have i0:(0:Int)≤(i:Int):=by omega
  have i1:(i:Int) < (n:Nat):=by omega
  have j0:(0:Int)≤(j:Int):=by omega
  have j1:(j:Int) < (n:Nat):=by omega
  have k0:(0:Int)≤(k:Int):=by omega
  have k1:(k:Int) < (n:Nat):=by omega
  have step:∀ b:Bool,(C i j=true→b=true)→(b=true→TC es i j)→(Pk es (k+1) i j→b=true) →
    ∃ C',Sound es C'∧Full es k C'∧Grow C C'∧(∀ q:Int,j≤q→q < n→Pk es (k+1) i q→C' i q=true)∧M43L3 (n:Int) (i:Int) (k:Int) go2 m (tt n (put C i j b)) ((j+1:Nat):Int)=M43K5 (i:Int) go2 (tt n C'):=by
   intro b hb1 hb2 hb3
   have hg:Grow C (put C i j b):=by
    intro i' j' h
    rw [put_at]
    by_cases q:i'=i∧j'=j
    ·rw [if_pos q];rw [q.1,q.2] at h;exact hb1 h
    ·rw [if_neg q];exact h
   obtain ⟨C',h1,h2,h3,h4,h5⟩:=ih (j+1) (by omega) (put C i j b) (fun i' j' h=>by
    rw [put_at] at h
    by_cases q:i'=i∧j'=j
    ·rw [if_pos q] at h;rw [q.1,q.2];exact hb2 h
    ·rw [if_neg q] at h;exact hS _ _ h) (fun i' j' h=>hg _ _ (hF _ _ h)) m (by omega)
   refine ⟨C',h1,h2,fun _ _ h=>h3 _ _ (hg _ _ h),fun q q1 q2 q3=>?_,h5⟩
   by_cases c:q=j
   ·rw [c] at q3 ⊢
    refine h3 _ _ ?_
    rw [put_at,if_pos ⟨rfl,rfl⟩]
    exact hb3 q3
   ·exact h4 q (by omega) q2 q3
  rw [M43L3,M43L3B,if_pos j1,tt_idx i0 i1,bind1_some,bind1_some,tab_idx j0 j1,bind1_some]
  by_cases c:C i j=true
  ·obtain ⟨z,h1,h2⟩:=put_ok (n:=n) (C:=C) (i:=i) (j:=j) true i0 i1 j0 j1
   rw [if_pos c,bind1_some,h1,bind1_some,h2,bind1_some,isucc j (by omega),bind1_some]
   exact step true (fun _=>rfl) (fun _=>hS _ _ c) (fun _=>rfl)
  ·have c':C i j=false:=by simpa using c
   rw [if_neg c,bind1_some,tab_idx k0 k1,bind1_some]
   by_cases c1:C i k=true
   ·obtain ⟨z,h1,h2⟩:=put_ok (n:=n) (C:=C) (i:=i) (j:=j) (C k j) i0 i1 j0 j1
    rw [if_pos c1,tt_idx k0 k1,bind1_some,tab_idx j0 j1,bind1_some,bind1_some,h1,bind1_some,h2,bind1_some,isucc j (by omega),bind1_some]
    refine step (C k j) (fun h=>absurd h c) (fun h=>(hS _ _ c1).trans (hS _ _ h)) (fun h=>?_)
    rcases h with h | h
    ·exact absurd (hF _ _ h) c
    ·exact hF _ _ h.2
   ·obtain ⟨z,h1,h2⟩:=put_ok (n:=n) (C:=C) (i:=i) (j:=j) false i0 i1 j0 j1
    rw [if_neg c1,bind1_some,h1,bind1_some,h2,bind1_some,isucc j (by omega),bind1_some]
    refine step false (fun h=>absurd h c) (fun h=>by cases h) (fun h=>?_)
    rcases h with h | h
    ·exact absurd (hF _ _ h) c
    ·exact absurd (hF _ _ h.1) c1
theorem closeL2 (n:Nat) (hn:n≤60) (es:List TE) (hR:InR n es) (k:Nat) (hk:k < n) (go1:List (List Bool)→Int→Option (List (List Bool))):∀ (r i:Nat),i+r=n→∀ C,Sound es C→Full es k C→∀ m,r < m →
  ∃ C',Sound es C'∧Full es k C'∧Grow C C'∧(∀ p q:Int,i≤p→Pk es (k+1) p q→C' p q=true)∧M43L2 (n:Int) (k:Int) go1 m (tt n C) (i:Int)=M43K4 (k:Int) go1 (tt n C'):=by
 intro r
 induction r with
 | zero =>
  intro i hi C hS hF m hm
  obtain ⟨m,rfl⟩:=dec m hm
  refine ⟨C,hS,hF,fun _ _ h=>h,fun p q h1 h2=>?_,by rw [M43L2,M43L2B,if_neg (by omega)]⟩
  have:=Pk.rng hR h2
  omega
 | succ r ih =>
  intro i hi C hS hF m hm
  obtain ⟨m,rfl⟩:=dec m (by omega)
  obtain ⟨C1,hS1,hF1,hg1,hp1,h1⟩:=closeL3 n hn es i k (by omega) hk (M43L2 (n:Int) (k:Int) go1 m) n 0 (by omega) C hS hF big (lt_big (by omega))
  rw [show ((0:Nat):Int)=0 from rfl] at h1
  obtain ⟨C2,hS2,hF2,hg2,hp2,h2⟩:=ih (i+1) (by omega) C1 hS1 hF1 m (by omega)
  refine ⟨C2,hS2,hF2,fun _ _ h=>hg2 _ _ (hg1 _ _ h),fun p q q1 q2=>?_,by rw [M43L2,M43L2B,if_pos (by omega),h1,M43K5,isucc i (by omega),bind1_some,h2]⟩
  by_cases c:p=i
  ·rw [c] at q2 ⊢
   obtain ⟨_,_,r1,r2⟩:=Pk.rng hR q2
   exact hg2 _ _ (hp1 q (by omega) r2 q2)
  ·exact hp2 p q (by omega) q2
theorem closeL1 (n:Nat) (hn:n≤60) (es:List TE) (hR:InR n es):∀ (r k:Nat),k+r=n→∀ C,Sound es C→Full es k C→∀ m,r < m →
  ∃ C',Sound es C'∧Full es n C'∧M43L1 (n:Int) m (tt n C) (k:Int)=some (tt n C'):=by
 intro r
 induction r with
 | zero =>
  intro k hk C hS hF m hm
  obtain ⟨m,rfl⟩:=dec m hm
  rw [show k=n by omega] at hF
  exact ⟨C,hS,hF,by rw [M43L1,M43L1B,if_neg (by omega),M43K3]⟩
 | succ r ih =>
  intro k hk C hS hF m hm
  obtain ⟨m,rfl⟩:=dec m (by omega)
  obtain ⟨C1,hS1,hF1,hg1,hp1,h1⟩:=closeL2 n hn es hR k (by omega) (M43L1 (n:Int) m) n 0 (by omega) C hS hF big (lt_big (by omega))
  rw [show ((0:Nat):Int)=0 from rfl] at h1
  obtain ⟨C2,hS2,hF2,h2⟩:=ih (k+1) (by omega) C1 hS1 (fun p q h=>hp1 p q (by have:=Pk.rng hR h;omega) h) m (by omega)
  exact ⟨C2,hS2,hF2,by rw [M43L1,M43L1B,if_pos (by omega),h1,M43K4,isucc k (by omega),bind1_some,h2]⟩
theorem edgesL4 (n:Nat) (es:List TE) (hl:es.length≤2000) (h:InR n es):∀ (r i:Nat),i+r=es.length→∀ C,Sound es C→Holds (es.take i) C→∀ m,r < m →
  ∃ C',Sound es C'∧Holds es C'∧M43L4 es (n:Int) m (tt n C) (i:Int)=M43K2 (n:Int) (tt n C'):=by
 intro r
 induction r with
 | zero =>
  intro i hi C hS hH m hm
  obtain ⟨m,rfl⟩:=dec m hm
  rw [List.take_of_length_le (by omega)] at hH
  exact ⟨C,hS,hH,by rw [M43L4,M43L4B,if_neg (by omega)]⟩
 | succ r ih =>
  intro i hi C hS hH m hm
  obtain ⟨m,rfl⟩:=dec m (by omega)
  have h1:i < es.length:=by omega
  obtain ⟨g1,g2,g3,g4⟩:=h es[i] (List.getElem_mem h1)
  obtain ⟨z,q1,q2⟩:=put_ok (n:=n) (C:=C) true g1 g2 g3 g4
  rw [M43L4,M43L4B,if_pos (by omega),idx_ok h1,bind1_some,tt_idx g1 g2,bind1_some,tab_idx g3 g4,bind1_some,q1,bind1_some,q2,bind1_some,isucc i (by omega),bind1_some]
  refine ih (i+1) (by omega) _ (fun i' j' q=>?_) (fun e he=>?_) m (by omega)
  ·rw [put_at] at q
   by_cases q3:i'=es[i].From∧j'=es[i].To
   ·rw [q3.1,q3.2]
    exact .single (List.getElem_mem h1)
   ·rw [if_neg q3] at q;exact hS _ _ q
  ·rw [put_at]
   by_cases q3:e.From=es[i].From∧e.To=es[i].To
   ·rw [if_pos q3]
   ·rw [if_neg q3]
    rw [take_snoc h1,List.mem_append,List.mem_singleton] at he
    rcases he with he | he
    ·exact hH e he
    ·rw [he] at q3;exact absurd ⟨rfl,rfl⟩ q3
theorem rowsL5 (n:Nat) (hn:n≤60) (es:List TE) (l1:List (List Bool)) (hl:l1.length=n):∀ (r i:Nat),i+r=n→∀ m,r < m →
  M43L5 l1 (n:Int) es m (tab n fun x=>if x < i then List.replicate n false else []) (i:Int)=M43K1 es (n:Int) (tt n fun _ _=>false):=by
 intro r
 induction r with
 | zero =>
  intro i hi m hm
  obtain ⟨m,rfl⟩:=dec m hm
  rw [M43L5,M43L5B,if_neg (by omega)]
  congr 1
  apply tab_ext
  intro x _ _
  rw [if_pos (by omega),tab_repl]
 | succ r ih =>
  intro i hi m hm
  obtain ⟨m,rfl⟩:=dec m (by omega)
  have i0:(0:Int)≤(i:Int):=by omega
  have i1:(i:Int) < (n:Nat):=by omega
  rw [M43L5,M43L5B,if_pos (by omega),mk_ok _ (by omega),bind1_some,tab_idx i0 i1,bind1_some,tab_upd _ i0 i1,bind1_some,isucc i (by omega),bind1_some,← ih (i+1) (by omega) m (by omega)]
  congr 1
  apply tab_ext
  intro x _ _
  by_cases c:x=i
  ·rw [if_pos c,if_pos (by omega)]
  ·rw [if_neg c]
   by_cases c2:x < i
   ·rw [if_pos c2,if_pos (by omega)]
   ·rw [if_neg c2,if_neg (by omega)]
theorem closure_tc (n:Nat) (hn:n≤60) (es:List TE) (hl:es.length≤2000) (h:InR n es):∃ C,(∀ i j,C i j=true↔TC es i j)∧M43 (n:Int) es=some (tt n C):=by
 obtain ⟨C1,hS1,hH1,h1⟩:=edgesL4 n es hl h es.length 0 (by omega) (fun _ _=>false) (fun _ _ h=>by cases h) (fun e he=>by simp at he) big (lt_big (by omega))
 obtain ⟨C2,hS2,hF2,h2⟩:=closeL1 n hn es h n 0 (by omega) C1 hS1 (fun i j hp=>hH1 ⟨i,j⟩ hp) big (lt_big (by omega))
 have h3:=rowsL5 n hn es (tab n fun _=>([]:List Bool)) (tab_length ..) n 0 (by omega) big (lt_big (by omega))
 have e:(tab n fun x:Int=>if x < ((0:Nat):Int) then List.replicate n false else [])=tab n fun _=>([]:List Bool):=tab_ext fun x h0 _=>by rw [if_neg (by omega)]
 rw [e] at h3
 rw [show ((0:Nat):Int)=0 from rfl] at h1 h2 h3
 refine ⟨C2,fun i j=>⟨hS2 i j,fun ht=>hF2 i j (Pk.of_tc h ht)⟩,?_⟩
 rw [M43,mk_ok _ (by omega),bind1_some,tab_repl,h3,M43K1,h1,M43K2,h2]
def ah (S:Int→List Int) (D:Int→Bool) (n:Nat) (x:Int):Int:=if D x=true then -1 else cnt S D x n
def Closed (es:List TE) (D:Int→Bool):Prop:=∀ i k,D k=true→Ed es i k→D i=true
end Go.Proofs.YtlecphianicdhaaGreat
end
section
namespace Go.Proofs.YtlecphianicdhaaGreat
open Go.S
set_option linter.unusedVariables false
set_option linter.unusedSimpArgs false
def ixF (x:Int):List Int→Nat→Int
 | [],_=>-1
 | a :: l,i=>if x=a then (i:Int) else ixF x l (i+1)
theorem ixF_mem (x:Int):∀ (l:List Int) (i:Nat),0≤ixF x l i↔x∈l
 | [],i=>by simp [ixF]
 | a :: l,i=>by
  rw [ixF,List.mem_cons]
  by_cases c:x=a
  ·rw [if_pos c];exact ⟨fun _=>.inl c,fun _=>by omega⟩
  ·rw [if_neg c,ixF_mem x l (i+1)]
   exact ⟨.inr,fun h=>h.resolve_left c⟩
theorem ixF_app {x:Int} (T:List Int):∀ (s:List Int) (i:Nat),x ∉ s→ixF x (s++x :: T) i=((i+s.length:Nat):Int)
 | [],i,_=>by simp [ixF]
 | a :: s,i,h=>by
  rw [List.mem_cons,not_or] at h
  rw [List.cons_append,ixF,if_neg h.1,ixF_app T s (i+1) h.2,List.length_cons]
  congr 1
  omega
theorem indexF (l:List Int) (hl:l.length≤1000000) (x:Int):∀ (r i:Nat),i+r=l.length→∀ m,r < m→M96L1 l x m (i:Int)=some (ixF x (l.drop i) i):=by
 intro r
 induction r with
 | zero =>
  intro i hi m hm
  obtain ⟨m,rfl⟩:=dec m hm
  rw [M96L1,M96L1B,if_neg (by omega),M96K1,List.drop_eq_nil_of_le (by omega)]
  rfl
 | succ r ih =>
  intro i hi m hm
  obtain ⟨m,rfl⟩:=dec m (by omega)
  have h1:i < l.length:=by omega
  rw [M96L1,M96L1B,if_pos (by omega),idx_ok h1,bind1_some,drop_cons h1,ixF]
  by_cases c:x=l[i]
  ·rw [if_pos c,if_pos c]
  ·rw [if_neg c,if_neg c,isucc i (by omega),bind1_some,ih (i+1) (by omega) m (by omega)]
theorem index_eq (l:List Int) (hl:l.length≤1000000) (x:Int):M96 l x=some (ixF x l 0):=by
 have:=indexF l hl x l.length 0 (by omega) big (lt_big (by omega))
 rw [List.drop_zero] at this
 exact this
theorem contains_eq (l:List Int) (hl:l.length≤1000000) (x:Int):M95 l x=some (decide (x∈l)):=by
 rw [M95,index_eq l hl x,bind1_some]
 congr 1
 exact decide_eq_decide.2 (ixF_mem x l 0)
theorem srt_perm (l:List Int):(srt l).Perm l:=by unfold srt;exact List.mergeSort_perm l _
theorem srt_le (l:List Int):(srt l).Pairwise (·≤·):=by
 have h:=List.pairwise_mergeSort (le:=fun x y:Int=>decide (x≤y)) (fun a b c h1 h2=>by simp only [decide_eq_true_eq] at *;omega) (fun a b=>by simp only [Bool.or_eq_true,decide_eq_true_eq];omega) l
 exact h.imp fun h=>by simpa using h
theorem srt_lt {l:List Int} (h:l.Nodup):(srt l).Pairwise (· < ·):=by
 have h1:=srt_le l
 have h2:(srt l).Nodup:=(srt_perm l).nodup_iff.2 h
 exact (List.pairwise_and_iff.2 ⟨h1,h2⟩).imp fun {a b} h=>by have h3:a≠b:=h.2;have h4:=h.1;omega
def Rch (es:List TE) (x y:Int):Prop:=x=y∨TC es x y
theorem Rch.refl {es:List TE} (x:Int):Rch es x x:=.inl rfl
theorem Rch.trans {es:List TE} {x y z:Int} (h1:Rch es x y) (h2:Rch es y z):Rch es x z:=by
 rcases h1 with rfl | h1
 ·exact h2
 ·rcases h2 with rfl | h2
  ·exact .inr h1
  ·exact .inr (TC.trans h1 h2)
theorem Rch.edge {es:List TE} {x y:Int} (h:Ed es x y):Rch es x y:=.inr (.single h)
theorem tc_closed {es:List TE} {A:Int→Prop} (h:∀ x,A x→∀ y,Ed es x y→A y) {x y:Int} (hx:A x) (hr:TC es x y):A y:=by
 induction hr with
 | single h1=>exact h _ hx _ h1
 | tail _ h1 ih=>exact h _ ih _ h1
theorem rch_closed {es:List TE} {A:Int→Prop} (h:∀ x,A x→∀ y,Ed es x y→A y) {x y:Int} (hx:A x) (hr:Rch es x y):A y:=by
 rcases hr with rfl | hr
 ·exact hx
 ·exact tc_closed h hx hr
def wh (W:Int→Int):Nat→Nat
 | 0=>0
 | p+1=>wh W p+if W (p:Int)=0 then 1 else 0
theorem wh_le (W:Int→Int):∀ n,wh W n≤n
 | 0=>Nat.le_refl _
 | n+1=>by have:=wh_le W n;rw [wh];split <;> omega
theorem wh_put {W:Int→Int} {k v:Int} (h:W k=0) (hv:v≠0) (h0:0≤k):∀ n:Nat,wh W n=wh (fun i=>if i=k then v else W i) n+if k < n then 1 else 0
 | 0=>by rw [if_neg (by omega)];rfl
 | n+1=>by
  rw [wh,wh,wh_put h hv h0 n]
  by_cases e:(n:Int)=k
  ·rw [if_neg (show ¬ k < ((n:Nat):Int) by omega),if_pos (show k < ((n+1:Nat):Int) by omega),if_pos e,if_neg hv,e,if_pos h]
  ·rw [if_neg e]
   by_cases c:k < n
   ·rw [if_pos c,if_pos (show k < ((n+1:Nat):Int) by omega)];omega
   ·rw [if_neg c,if_neg (show ¬ k < ((n+1:Nat):Int) by omega)];omega
theorem wh_pos {W:Int→Int} {k:Int} (h:W k=0) (h0:0≤k) {n:Nat} (hk:k < n):0 < wh W n:=by
 have:=wh_put (v:=1) h (by decide) h0 n
 rw [if_pos hk] at this
 omega
structure St where
 W:Int→Int
 s:List Int
 P:List (List Int)
 t:Int
structure Inv (n:Nat) (es:List TE) (G:List Int) (σ:St):Prop where
 wb:∀ x,0≤σ.W x∧σ.W x≤σ.t
 vis:∀ x,σ.W x≠0→0≤x∧x < n
 cnt:σ.t+(wh σ.W n:Int)=n
 inr:∀ x∈σ.s,σ.W x≠0
 asc:σ.s.Pairwise fun x y=>σ.W x < σ.W y
 gs:∀ g∈G,g∈σ.s
 rg:∀ g∈G,∀ x∈σ.s,σ.W g≤σ.W x→Rch es g x
 back:∀ x∈σ.s,∃ g∈G,σ.W g≤σ.W x∧Rch es x g
 blk:∀ x∈σ.s,x ∉ G→∀ y,Ed es x y→σ.W y≠0
 dcl:∀ x,σ.W x≠0→x ∉ σ.s→∀ y,Ed es x y→σ.W y≠0∧y ∉ σ.s
 pcov:∀ x,(σ.W x≠0∧x ∉ σ.s)↔∃ p∈σ.P,x∈p
 pok:∀ p∈σ.P,p≠[]∧p.Pairwise (· < ·)∧∀ x∈p,∀ y,y∈p↔Rch es x y∧Rch es y x
 pdj:σ.P.Pairwise fun p q=>∀ x∈p,x ∉ q
 plen:σ.P.length+σ.s.length+wh σ.W n≤n
structure Post (n:Nat) (es:List TE) (G:List Int) (σ:St) (L:Int→Int) (k:Int) (σ':St) (L':Int→Int):Prop where
 inv:Inv n es G σ'
 ext:∀ x,σ.W x≠0→σ'.W x=σ.W x∧L' x=L x
 seen:σ'.W k=σ.t+1
 str:∃ T,σ'.s=σ.s++T∧(∀ x∈T,σ.W x=0)∧((∃ y∈σ.s,σ.W y=L' k∧Rch es k y)∨L' k=σ'.W k)∧∀ x∈T,∀ y,Ed es x y→y∈σ.s→L' k≤σ.W y
structure Lv (n:Nat) (es:List TE) (G:List Int) (σ:St) (L:Int→Int) (k:Int) (j:Nat) (τ:St) (M:Int→Int):Prop where
 inv:Inv n es (k :: G) τ
 ext:∀ x,σ.W x≠0→τ.W x=σ.W x∧M x=L x
 seen:τ.W k=σ.t+1
 lo:M k≤τ.W k
 hi:∃ y,(y=k∨y∈σ.s)∧τ.W y=M k∧Rch es k y
 str:∃ T,τ.s=σ.s++k :: T∧(∀ x∈T,σ.W x=0)∧∀ x∈T,∀ y,Ed es x y→y∈σ.s→M k≤σ.W y
 old:∀ y∈(suc es k).take j,τ.W y≠0∧(y∈σ.s→M k≤σ.W y)
def ins (f:Int→Int) (k v:Int):Int→Int:=fun i=>if i=k then v else f i
theorem ins_at (f:Int→Int) (k v:Int):ins f k v k=v:=if_pos rfl
theorem ins_ne {f:Int→Int} {k v x:Int} (h:x≠k):ins f k v x=f x:=if_neg h
theorem Inv.nodup {n:Nat} {es:List TE} {G:List Int} {σ:St} (h:Inv n es G σ):σ.s.Nodup :=
 h.asc.imp fun {a b} h e=>by rw [e] at h;omega
theorem Inv.tle {n:Nat} {es:List TE} {G:List Int} {σ:St} (h:Inv n es G σ):0≤σ.t∧σ.t≤n:=by
 have h1:=h.cnt
 have h2:=h.wb 0
 omega
theorem begin_ok {n:Nat} {es:List TE} {G:List Int} {σ:St} {L:Int→Int} {k:Int} (h:Inv n es G σ) (hk:σ.W k=0) (h0:0≤k) (h1:k < n) (hg:∀ g∈G,Rch es g k) :
  Lv n es G σ L k 0 ⟨ins σ.W k (σ.t+1),σ.s++[k],σ.P,σ.t+1⟩ (ins L k (σ.t+1)):=by
 have ht:=h.tle
 have hks:k ∉ σ.s:=fun q=>h.inr k q hk
 have hne:∀ {x},σ.W x≠0→x≠k:=fun q e=>q (by rw [e];exact hk)
 have hin:∀ {x},σ.W x≠0→ins σ.W k (σ.t+1) x=σ.W x:=fun q=>ins_ne (hne q)
 have hsn:∀ {x},x∈σ.s→ins σ.W k (σ.t+1) x=σ.W x:=fun q=>hin (h.inr _ q)
 have hnz:∀ {x},σ.W x≠0→ins σ.W k (σ.t+1) x≠0:=fun q=>by rw [hin q];exact q
 have hz:∀ {x},ins σ.W k (σ.t+1) x≠0→x≠k→σ.W x≠0:=fun q c=>by rw [ins_ne c] at q;exact q
 have hwh:=wh_put (v:=σ.t+1) hk (by omega) h0 n
 rw [if_pos h1] at hwh
 have hwh':wh σ.W n=wh (ins σ.W k (σ.t+1)) n+1:=hwh
 have hmem:∀ {x},x∈σ.s++[k]↔x∈σ.s∨x=k:=fun {x}=>by rw [List.mem_append,List.mem_singleton]
 refine ⟨⟨fun x=>?_,fun x hx=>?_,?_,fun x hx=>?_,?_,fun g hgm=>?_,fun g hgm x hx hw=>?_,fun x hx=>?_,fun x hx hxg y hy=>?_,fun x hx hxs y hy=>?_,fun x=>?_,h.pok,h.pdj,?_⟩,fun x hx=>⟨hin hx,ins_ne (hne hx)⟩,ins_at ..,?_,⟨k,.inl rfl,?_,Rch.refl k⟩,⟨[],rfl,by simp,by simp⟩,by simp⟩
 ·show 0≤ins σ.W k (σ.t+1) x∧ins σ.W k (σ.t+1) x≤σ.t+1
  by_cases c:x=k
  ·rw [c,ins_at];omega
  ·rw [ins_ne c];have:=h.wb x;omega
 ·by_cases c:x=k
  ·rw [c];exact ⟨h0,h1⟩
  ·exact h.vis x (hz hx c)
 ·have:=h.cnt
  show σ.t+1+(wh (ins σ.W k (σ.t+1)) n:Int)=n
  omega
 ·rcases hmem.1 hx with hx | hx
  ·exact hnz (h.inr x hx)
  ·rw [hx];show ins σ.W k (σ.t+1) k≠0;rw [ins_at];omega
 ·show (σ.s++[k]).Pairwise fun x y=>ins σ.W k (σ.t+1) x < ins σ.W k (σ.t+1) y
  rw [List.pairwise_append]
  refine ⟨List.Pairwise.imp_of_mem (fun {a b} ha hb hab=>?_) h.asc,by simp,fun a ha b hb=>?_⟩
  ·rw [hsn ha,hsn hb];exact hab
  ·rw [List.mem_singleton] at hb
   rw [hsn ha,hb,ins_at]
   have:=h.wb a
   omega
 ·rcases List.mem_cons.1 hgm with e | e
  ·exact hmem.2 (.inr e)
  ·exact hmem.2 (.inl (h.gs g e))
 ·have hw':ins σ.W k (σ.t+1) g≤ins σ.W k (σ.t+1) x:=hw
  rcases List.mem_cons.1 hgm with e | e
  ·rcases hmem.1 hx with hx | hx
   ·rw [e,ins_at,hsn hx] at hw'
    have:=h.wb x
    omega
   ·rw [e,hx];exact Rch.refl k
  ·rcases hmem.1 hx with hx | hx
   ·rw [hsn hx,hsn (h.gs g e)] at hw'
    exact h.rg g e x hx hw'
   ·rw [hx];exact hg g e
 ·rcases hmem.1 hx with hx | hx
  ·obtain ⟨g,h2,h3,h4⟩:=h.back x hx
   refine ⟨g,List.mem_cons_of_mem _ h2,?_,h4⟩
   show ins σ.W k (σ.t+1) g≤ins σ.W k (σ.t+1) x
   rw [hsn hx,hsn (h.gs g h2)]
   exact h3
  ·rw [hx];exact ⟨k,List.mem_cons_self ..,Int.le_refl _,Rch.refl k⟩
 ·rw [List.mem_cons,not_or] at hxg
  rcases hmem.1 hx with hx | hx
  ·exact hnz (h.blk x hx hxg.2 y hy)
  ·exact absurd hx hxg.1
 ·have hxs':x ∉ σ.s++[k]:=hxs
  rw [hmem,not_or] at hxs'
  obtain ⟨h2,h3⟩:=h.dcl x (hz hx hxs'.2) hxs'.1 y hy
  refine ⟨hnz h2,?_⟩
  show y ∉ σ.s++[k]
  rw [hmem,not_or]
  exact ⟨h3,hne h2⟩
 ·rw [← h.pcov x]
  show (ins σ.W k (σ.t+1) x≠0∧x ∉ σ.s++[k])↔_
  rw [hmem,not_or]
  constructor
  ·rintro ⟨q1,q2,q3⟩;exact ⟨hz q1 q3,q2⟩
  ·rintro ⟨q1,q2⟩;exact ⟨hnz q1,q2,hne q1⟩
 ·have:=h.plen
  show σ.P.length+(σ.s++[k]).length+wh (ins σ.W k (σ.t+1)) n≤n
  rw [List.length_append,List.length_singleton]
  omega
 ·rw [ins_at];show σ.t+1≤ins σ.W k (σ.t+1) k;rw [ins_at];exact Int.le_refl _
 ·rw [ins_at];exact ins_at ..
theorem Lv.before {n:Nat} {es:List TE} {G:List Int} {σ τ:St} {L M:Int→Int} {k x:Int} {j:Nat} (h:Lv n es G σ L k j τ M) (hx:x∈τ.s) (hw:τ.W x < τ.W k):x∈σ.s:=by
 obtain ⟨T,h1,_,_⟩:=h.str
 have ha:=h.inv.asc
 rw [h1,List.pairwise_append] at ha
 rw [h1,List.mem_append,List.mem_cons] at hx
 rcases hx with hx | hx | hx
 ·exact hx
 ·rw [hx] at hw;omega
 ·have:=(List.pairwise_cons.1 ha.2.1).1 x hx
  omega
theorem Lv.kz {n:Nat} {es:List TE} {G:List Int} {σ τ:St} {L M:Int→Int} {k:Int} {j:Nat} (h:Lv n es G σ L k j τ M) (hσ:Inv n es G σ):σ.W k=0:=by
 by_cases c:σ.W k=0
 ·exact c
 ·have h1:=(h.ext k c).1
  have h2:=h.seen
  have h3:=hσ.wb k
  omega
end Go.Proofs.YtlecphianicdhaaGreat
end
