import Derived.Test.YtbjidacdnjojnaaGreatDoorZc
import Derived.Test.YtbjidacdnjojnaaGreatDoorZb
namespace Go.Proofs.YtbjidacdnjojnaaGreatDoor
open Go.S
set_option linter.unusedVariables false
structure Twrite where
 at_:Int
 text_:(List UInt8)
 deriving DecidableEq,Inhabited
def Twrite.row (x:Twrite):List Value:=[.int .i64 x.at_,st x.text_]
structure TDisk where
 safe_:(List (List UInt8))
 seen_:(List (List UInt8))
 late_:(List Twrite)
 left_:Int
 deriving DecidableEq,Inhabited
def TDisk.rowA (x:TDisk) (vs:List Value):List Value:=[gv vs 0,gv vs 1,gv vs 2,.int .i64 x.left_]
def TDisk.subA (x:TDisk) (vs:List Value):List As:=[.sl (gv vs 0) 9 1 (x.safe_.map SR),.sl (gv vs 1) 9 1 (x.seen_.map SR),.sl (gv vs 2) 62 2 (x.late_.map Twrite.row)]
abbrev qe (gP60:Nat→Nat) (gh:Nat→List Value) (l:List TDisk) (hs:List Nat):As:=arn (TDisk.rowA) (TDisk.subA) 60 gP60 gh l hs
structure TLog where
 d_:Int
 from_:Int
 size_:Int
 epoch_:Int
 at_:Int
 seq_:Int
 fell_:Bool
 deriving DecidableEq,Inhabited
def TLog.rowA (gP60:Nat→Nat) (x:TLog) (vs:List Value):List Value:=[VP gP60 x.d_,.int .i64 x.from_,.int .i64 x.size_,.int .i64 x.epoch_,.int .i64 x.at_,.int .i64 x.seq_,.bool x.fell_]
def TLog.subA (gP60:Nat→Nat) (x:TLog) (vs:List Value):List As:=[]
abbrev qc (gP60:Nat→Nat) (gP100:Nat→Nat) (gh:Nat→List Value) (l:List TLog) (hs:List Nat):As:=arn (TLog.rowA gP60) (TLog.subA gP60) 100 gP100 gh l hs
abbrev TLog.ok60 (n:Nat) (x:TLog):Prop:=(x.d_ < n)
theorem TLog.cg60 {gP60:Nat→Nat} {n n':Nat} {g':Nat→Nat} {x:TLog} {v:List Value} (h:Gr gP60 n g' n') (hx:x.ok60 n):TLog.rowA gP60 x v=TLog.rowA g' x v∧TLog.subA gP60 x v=TLog.subA g' x v:=by
 have h0:=hx
 constructor <;> simp only [TLog.rowA,TLog.subA,qf3 h h0]
theorem qcQ {gP60 gP100:Nat→Nat} {n n':Nat} {g':Nat→Nat} {gh:Nat→List Value} {l:List TLog} {hs:List Nat} (h:Gr gP60 n g' n') (hx:∀ x∈l,TLog.ok60 n x):qc gP60 gP100 gh l hs=qc g' gP100 gh l hs:=qeE fun x hm v=>TLog.cg60 h (hx x hm)
structure Trecord where
 epoch_:Int
 text_:(List UInt8)
 size_:Int
 deriving DecidableEq,Inhabited
def Trecord.row (x:Trecord):List Value:=[.int .i64 x.epoch_,st x.text_,.int .i64 x.size_]
structure qn where
 gen_:Int
 whole_:Bool
 values_:(List (List UInt8))
 deriving DecidableEq,Inhabited
structure TVersion where
 At:Int
 Text:(List UInt8)
 deriving DecidableEq,Inhabited
def TVersion.row (x:TVersion):List Value:=[.int .i64 x.At,st x.Text]
structure TStore where
 logs_:(List Int)
 half_:Int
 gen_:Int
 down_:Bool
 now_:Int
 items_:(List (List TVersion))
 active_:(List Int)
 over_:(List Int)
 deriving DecidableEq,Inhabited
def TStore.rowA (gP88:Nat→Nat) (gP100:Nat→Nat) (x:TStore) (vs:List Value):List Value:=List.flatten [(zr (fzr (PR gP100)) (fun _=>[]) x.logs_).flatten,[.int .i64 x.half_],[.int .i64 x.gen_],[.bool x.down_],[.int .i64 x.now_],(zr qi (qk vs 2) x.items_).flatten,[gv vs 0],[gv vs 1]]
def TStore.subA (gP88:Nat→Nat) (gP100:Nat→Nat) (x:TStore) (vs:List Value):List As:=[.sl (gv vs 0) 84 1 (x.active_.map (PR gP88)),.sl (gv vs 1) 84 1 (x.over_.map (PR gP88)),.ss (zs sd0 (fun _=>[]) x.logs_),.ss (zs (qq 79 2 TVersion.row) (qk vs 2) x.items_)]
abbrev qf (gP70:Nat→Nat) (gP88:Nat→Nat) (gP100:Nat→Nat) (gh:Nat→List Value) (l:List TStore) (hs:List Nat):As:=arn (TStore.rowA gP88 gP100) (TStore.subA gP88 gP100) 70 gP70 gh l hs
abbrev TStore.ok88 (n:Nat) (x:TStore):Prop:=(∀ k∈x.active_,k < n)∧(∀ k∈x.over_,k < n)
theorem TStore.cg88 {gP88:Nat→Nat} {gP100:Nat→Nat} {n n':Nat} {g':Nat→Nat} {x:TStore} {v:List Value} (h:Gr gP88 n g' n') (hx:x.ok88 n):TStore.rowA gP88 gP100 x v=TStore.rowA g' gP100 x v∧TStore.subA gP88 gP100 x v=TStore.subA g' gP100 x v:=by
 obtain ⟨h0,h1⟩:=hx
 constructor <;> simp only [TStore.rowA,TStore.subA,qf5 h h0,qf5 h h1]
theorem qeF {gP70 gP88 gP100:Nat→Nat} {n n':Nat} {g':Nat→Nat} {gh:Nat→List Value} {l:List TStore} {hs:List Nat} (h:Gr gP88 n g' n') (hx:∀ x∈l,TStore.ok88 n x):qf gP70 gP88 gP100 gh l hs=qf gP70 g' gP100 gh l hs:=qeE fun x hm v=>TStore.cg88 h (hx x hm)
abbrev TStore.ok100 (n:Nat) (x:TStore):Prop:=(∀ k∈x.logs_,k < n)
theorem TStore.cg100 {gP88:Nat→Nat} {gP100:Nat→Nat} {n n':Nat} {g':Nat→Nat} {x:TStore} {v:List Value} (h:Gr gP100 n g' n') (hx:x.ok100 n):TStore.rowA gP88 gP100 x v=TStore.rowA gP88 g' x v∧TStore.subA gP88 gP100 x v=TStore.subA gP88 g' x v:=by
 have h0:=hx
 constructor <;> simp only [TStore.rowA,TStore.subA,qa1 h _ _ h0]
theorem vW {gP70 gP88 gP100:Nat→Nat} {n n':Nat} {g':Nat→Nat} {gh:Nat→List Value} {l:List TStore} {hs:List Nat} (h:Gr gP100 n g' n') (hx:∀ x∈l,TStore.ok100 n x):qf gP70 gP88 gP100 gh l hs=qf gP70 gP88 g' gh l hs:=qeE fun x hm v=>TStore.cg100 h (hx x hm)
structure Ttx where
 id_:Int
 from_:Int
 at_:Int
 reads_:(List Int)
 writes_:(List Int)
 texts_:(List (List UInt8))
 in_:Bool
 out_:Bool
 deriving DecidableEq,Inhabited
def Ttx.rowA (x:Ttx) (vs:List Value):List Value:=List.flatten [[.int .i64 x.id_],[.int .i64 x.from_],[.int .i64 x.at_],[gv vs 0],[gv vs 1],(zr (fzr SR) (fun _=>[]) x.texts_).flatten,[.bool x.in_],[.bool x.out_]]
def Ttx.subA (x:Ttx) (vs:List Value):List As:=[.sl (gv vs 0) 3 1 (x.reads_.map I),.sl (gv vs 1) 3 1 (x.writes_.map I),.ss (zs sd0 (fun _=>[]) x.texts_)]
abbrev qj (gP88:Nat→Nat) (gh:Nat→List Value) (l:List Ttx) (hs:List Nat):As:=arn (Ttx.rowA) (Ttx.subA) 88 gP88 gh l hs
structure TWish where
 Kind:Int
 Tx:Int
 Item:Int
 Text:(List UInt8)
 deriving DecidableEq,Inhabited
def TWish.row (x:TWish):List Value:=[.int .i64 x.Kind,.int .i64 x.Tx,.int .i64 x.Item,st x.Text]
structure TDeed where
 Wish:TWish
 Fuse:Int
 Keep:(List Bool)
 deriving DecidableEq,Inhabited
def TDeed.rowv (x:TDeed) (vs:List Value):List Value:=[.int .i64 x.Wish.Kind,.int .i64 x.Wish.Tx,.int .i64 x.Wish.Item,st x.Wish.Text,.int .i64 x.Fuse,gv vs 0]
def TDeed.sds (x:TDeed) (vs:List Value):List Sd:=[⟨gv vs 0,4,1,x.Keep.map B⟩]
def qgo (gx1:Int) (gl3:(List TDisk)):Option ((List TDisk)×Int×Int) :=
 qb (idx gl3 gx1) fun th5=>qb (app [] th5.safe_) fun l7=>qb (upd gl3 gx1 (⟨th5.safe_,l7,th5.late_,th5.left_⟩:TDisk)) fun l8=>some (l8,gx1,0)
def qce (go1:Int→(List TDisk)→Option ((List TDisk)×Int×Int)) (a0:Int) (x11:Int) (gx6:Int) (gl7:(List TDisk)):Option ((List TDisk)×Int×Int) :=
 if gx6 < a0 then qb (idx gl7 x11) fun th17=>qb (xu ([0]) 64) fun s33=>qb (app th17.safe_ ([s33])) fun l37=>qb (i64 (gx6+1)) fun x39=>qb (upd gl7 x11 (⟨l37,th17.seen_,th17.late_,th17.left_⟩:TDisk)) fun l40=>go1 x39 l40 else qgo x11 gl7
def ye (a0:Int) (x11:Int):Nat→Int→(List TDisk)→Option ((List TDisk)×Int×Int)
 | 0,_,_=>none
 | n+1,gx6,gl7=>qce (ye a0 x11 n) a0 x11 gx6 gl7
def M17 (a0:Int) (A60:(List TDisk)):Option ((List TDisk)×Int×Int) :=
 if a0 < 1 then some (A60,(-1),1) else if 256 < a0 then some (A60,(-1),1) else qI (qcD A60 (⟨[],[],[],(-1)⟩:TDisk)) fun x11 l12=>ye a0 x11 big 0 l12
def M20 (a0:Int) (A60:(List TDisk)):Option Int :=
 qb (idx A60 a0) fun th1=>some (th1.safe_.length:Int)
def M37 (a0:Int) (a1:Int) (A60:(List TDisk)):Option ((List UInt8)×Int) :=
 if a1 < 0 then some ([],1) else qb (idx A60 a0) fun th2=>if (th2.safe_.length:Int)≤a1 then some ([],1) else if th2.left_=0 then some ([],13) else qb (idx th2.seen_ a1) fun x5=>some (x5,0)
def qeK (gs1:(List UInt8)):Option (List UInt8) :=
 some gs1
def qbH (go1:(List UInt8)→Option (List UInt8)) (a1:Int) (gs2:(List UInt8)):Option (List UInt8) :=
 if 0 < (gs2.length:Int) then qb (i64 ((gs2.length:Int) - 1)) fun x2=>qb (qbn gs2 x2) fun x3=>if x3=a1 then qb (i64 ((gs2.length:Int) - 1)) fun x5=>qb (cut gs2 0 x5) fun s6=>go1 s6 else qeK gs2 else qeK gs2
def wN (a1:Int):Nat→(List UInt8)→Option (List UInt8)
 | 0,_=>none
 | n+1,gs2=>qbH (wN a1 n) a1 gs2
def M86 (a0:(List UInt8)) (a1:Int):Option (List UInt8) :=
 wN a1 big a0
def qeL (gs1:(List UInt8)):Option (List UInt8) :=
 some gs1
def qbI (go1:(List UInt8)→Option (List UInt8)) (a1:Int) (gs2:(List UInt8)):Option (List UInt8) :=
 if 0 < (gs2.length:Int) then qb (qbn gs2 0) fun x2=>if x2=a1 then qb (cut gs2 1 gs2.length) fun s4=>go1 s4 else qeL gs2 else qeL gs2
def wO (a1:Int):Nat→(List UInt8)→Option (List UInt8)
 | 0,_=>none
 | n+1,gs2=>qbI (wO a1 n) a1 gs2
def M85 (a0:(List UInt8)) (a1:Int):Option (List UInt8) :=
 wO a1 big a0
def qh2 (gl1:(List Bool)):Option ((List Bool)×Bool) :=
 qb (qQ 256 gl1) fun _=>qb (qQ 256 gl1) fun _=>qb (qQ 256 gl1) fun _=>qb (qQ 256 gl1) fun _=>some (gl1,true)
def qg0 (go1:Int→(List Bool)→Option ((List Bool)×Bool)) (a0:(List UInt8)) (gx2:Int) (gl3:(List Bool)):Option ((List Bool)×Bool) :=
 if gx2 < (a0.length:Int) then qb (qbn a0 gx2) fun x7=>if 128≤x7 then qb (qQ 256 gl3) fun _=>qb (qQ 256 gl3) fun _=>qb (qQ 256 gl3) fun _=>qb (qQ 256 gl3) fun _=>some (gl3,false) else qb (za 256 gl3 x7) fun x13=>qb (upd gl3 x7 true) fun l14=>qb (i64 (gx2+1)) fun x15=>go1 x15 l14 else qh2 gl3
def qcT (a0:(List UInt8)):Nat→Int→(List Bool)→Option ((List Bool)×Bool)
 | 0,_,_=>none
 | n+1,gx2,gl3=>qg0 (qcT a0 n) a0 gx2 gl3
def M87 (a0:(List UInt8)):Option ((List Bool)×Bool) :=
 qcT a0 big 0 (List.replicate 256 (false:Bool))
def qku (a0:Int):Option Bool :=
 some (decide ((Go.bits .and .u8 a0 192)≠128))
def qam (gb2:Bool):Option Bool :=
 if gb2=true then some true else some false
def qan (a0:Int) (gb1:Bool):Option Bool :=
 if gb1=true then some true else if 57343 < a0 then if a0≤1114111 then qam true else qam false else qam false
def qkt (a0:Int):Option Bool :=
 if 0≤a0 then if a0 < 55296 then qan a0 true else qan a0 false else qan a0 false
def qks (a0:Int):Option Int :=
 qb (i64 (a0+16)) fun x1=>qb (qgV .i64 x1 8) fun x2=>some x2
def M65 (a0:(List UInt8)) (a1:(List UInt8)):Option (List UInt8) :=
 if a0=[] then some a0 else if a1=[] then some a0 else if (a1.length:Int)=1 then qb (qbn a1 0) fun x4=>if x4 < 128 then qb (qbn a1 0) fun x6=>qb (M86 a0 x6) fun s7=>qb (qbn a1 0) fun x9=>qb (M85 s7 x9) fun s10=>some s10 else none else none
def qgd:Option (Int×Int×Int) :=
 some (0,0,3)
def qae (gx2:Int) (x2:Int) (gx1:Int) (go1:Int→Int→Option (Int×Int×Int)):Option (Int×Int×Int) :=
 qb (i64 (7*gx2)) fun x3=>qb (qda .u64 (IntKind.wrap .u64 (Go.bits .and .u8 x2 127)) x3) fun x4=>if x2 < 128 then if x2=0 then if 0 < gx2 then some (0,0,4) else qb (i64 (gx2+1)) fun x8=>some (Go.bits .or .u64 gx1 x4,x8,0) else qb (i64 (gx2+1)) fun x9=>some (Go.bits .or .u64 gx1 x4,x9,0) else qb (i64 (gx2+1)) fun x10=>go1 (Go.bits .or .u64 gx1 x4) x10
def qad (go1:Int→Int→Option (Int×Int×Int)) (a0:(List UInt8)) (gx1:Int) (gx2:Int):Option (Int×Int×Int) :=
 if gx2 < (a0.length:Int) then qb (qbn a0 gx2) fun x2=>if gx2=9 then if 1 < x2 then some (0,0,2) else qae gx2 x2 gx1 go1 else qae gx2 x2 gx1 go1 else qgd
def ki (a0:(List UInt8)):Nat→Int→Int→Option (Int×Int×Int)
 | 0,_,_=>none
 | n+1,gx1,gx2=>qad (ki a0 n) a0 gx1 gx2
def M68 (a0:(List UInt8)):Option (Int×Int×Int) :=
 ki a0 big 0 0
def M41 (a0:(List UInt8)):Option (Int×Int×Int) :=
 zD (M68 a0) fun x1 x2 x3=>if x3≠0 then some (0,0,x3) else qb (qau .u64 x1 1) fun x6=>if (Go.bits .and .u64 x1 1)=1 then some (IntKind.wrap .i64 (qii .u64 x6),x2,0) else some (IntKind.wrap .i64 x6,x2,0)
def qgj (gx1:Int) (gl3:(List Int)):Option (List UInt8) :=
 qb (app gl3 ([IntKind.wrap .u8 gx1])) fun l3=>some (bytesOf l3)
def qeN (go1:Int→(List Int)→Option (List UInt8)) (gx4:Int) (gl6:(List Int)):Option (List UInt8) :=
 if 128≤gx4 then qb (app gl6 ([Go.bits .or .u8 (IntKind.wrap .u8 gx4) 128])) fun l7=>qb (qau .u64 gx4 7) fun x8=>go1 x8 l7 else qgj gx4 gl6
def qaf:Nat→Int→(List Int)→Option (List UInt8)
 | 0,_,_=>none
 | n+1,gx4,gl6=>qeN (qaf n) gx4 gl6
def M47 (a0:Int):Option (List UInt8) :=
 qaf big a0 []
def M24 (a0:Int):Option (List UInt8) :=
 qb (qda .u64 (IntKind.wrap .u64 a0) 1) fun x1=>if a0 < 0 then qb (M47 (qii .u64 x1)) fun s3=>some s3 else qb (M47 x1) fun s5=>some s5
def qgb (gx1:Int) (gx2:Int):Option Int :=
 qb (qda .u32 gx2 16) fun x1=>some (Go.bits .or .u32 x1 gx1)
def qeJ (go1:Int→Int→Int→Option Int) (a0:(List UInt8)) (gx3:Int) (gx4:Int) (gx5:Int):Option Int :=
 if gx5 < (a0.length:Int) then qb (qbn a0 gx5) fun x3=>qb (qib (IntKind.wrap .u32 (gx3+(IntKind.wrap .u32 x3))) 65521) fun x4=>qb (qib (IntKind.wrap .u32 (gx4+x4)) 65521) fun x5=>qb (i64 (gx5+1)) fun x6=>go1 x4 x5 x6 else qgb gx3 gx4
def qac (a0:(List UInt8)):Nat→Int→Int→Int→Option Int
 | 0,_,_,_=>none
 | n+1,gx3,gx4,gx5=>qeJ (qac a0 n) a0 gx3 gx4 gx5
def M92 (a0:(List UInt8)):Option Int :=
 qac a0 big 1 0 0
def M72 (a0:(List UInt8)):Option ((List UInt8)×Int) :=
 if 4096 < (a0.length:Int) then some ([],2) else qb (M92 a0) fun x2=>qb (qau .u32 x2 24) fun x4=>qb (qau .u32 x2 16) fun x5=>qb (qau .u32 x2 8) fun x6=>qb (y8 a0 (bytesOf ([IntKind.wrap .u8 x4,IntKind.wrap .u8 x5,IntKind.wrap .u8 x6,IntKind.wrap .u8 x2]))) fun s8=>some (s8,0)
def M66 (a0:Int):Option (List UInt8) :=
 qb (M24 a0) fun s1=>qI (M72 s1) fun s3 x4=>qb (y8 ([3]) s3) fun s6=>some s6
def qcV (x5:Int) (s9:(List UInt8)) (a0:(List UInt8)) (gb1:Bool):Option (Int×Int) :=
 if gb1=true then some (0,4) else if 1000000 < x5 then some (0,4) else qb (i64 (64 - (s9.length:Int))) fun x12=>qb (xu ([0]) x12) fun s13=>qb (y8 s9 s13) fun s15=>if s15≠a0 then some (0,4) else some (x5,0)
def M38 (a0:(List UInt8)):Option (Int×Int) :=
 qb (M65 a0 ([0])) fun s1=>if s1=[] then some (0,0) else qb (cut a0 1 a0.length) fun s4=>zD (M41 s4) fun x5 x6 x7=>qb (M66 x5) fun s9=>if x7≠0 then qcV x5 s9 a0 true else if x5 < 0 then qcV x5 s9 a0 true else qcV x5 s9 a0 false
def M67 (a0:(List UInt8)) (a1:Int):Option (Int×(List UInt8)×Bool) :=
 qb (cut a0 0 1) fun s1=>if s1≠([1]) then some (0,[],false) else qb (cut a0 1 a0.length) fun s3=>zD (M41 s3) fun x4 x5 x6=>if x6≠0 then some (0,[],false) else qb (i64 (1+x5)) fun x9=>qb (cut a0 x9 a0.length) fun s10=>zD (M41 s10) fun x11 x12 x13=>qb (i64 (1+x5)) fun x15=>qb (i64 (x15+x12)) fun x16=>qb (cut a0 x16 a0.length) fun s17=>if x13=0 then some (x4,s17,decide (x11=a1)) else some (x4,s17,false)
def M69 (a0:(List UInt8)) (a1:Int) (a2:Int):Option (List UInt8) :=
 qb (M24 a1) fun s1=>qb (y8 a0 s1) fun s3=>qb (M24 a2) fun s4=>qb (y8 s3 s4) fun s6=>some s6
def M82 (a0:(List UInt8)) (a1:(List UInt8)):Option Bool :=
 if (a1.length:Int)≤(a0.length:Int) then qb (cut a0 0 (a1.length:Int)) fun s2=>some (decide (s2=a1)) else some false
def M60 (a0:(List UInt8)) (a1:(List UInt8)):Option Bool :=
 qb (M82 a0 a1) fun b1=>some b1
def M70 (a0:(List UInt8)):Option ((List UInt8)×Int) :=
 qb (i64 ((a0.length:Int) - 4)) fun x1=>if x1 < 0 then some ([],3) else if 4096 < x1 then some ([],2) else qb (cut a0 0 x1) fun s4=>qI (M72 s4) fun s5 x6=>if s5≠a0 then some ([],5) else qb (cut a0 0 x1) fun s9=>some (s9,0)
def qaV (x35:Int) (x29:Int) (x23:Int) (gs1:(List UInt8)) (gx2:Int):Option (Trecord×Bool) :=
 qb (cut gs1 0 x35) fun s36=>qI (M70 s36) fun s37 x38=>if x38≠0 then some ((⟨0,[],0⟩:Trecord),false) else qb (cut s37 x29 s37.length) fun s41=>some ((⟨x23,s41,gx2⟩:Trecord),true)
def vk (go1:(List UInt8)→Int→Option (Trecord×Bool)) (x35:Int) (a1:Int) (A100:(List TLog)) (a0:Int) (A60:(List TDisk)) (s42:(List UInt8)) (x29:Int) (x23:Int) (gs3:(List UInt8)) (gx4:Int):Option (Trecord×Bool) :=
 if (gs3.length:Int) < x35 then qb (i64 (a1+gx4)) fun x45=>qb (idx A100 a0) fun th46=>if th46.size_≤x45 then some ((⟨0,[],0⟩:Trecord),false) else qb (i64 (th46.from_+a1)) fun x63=>qb (i64 (x63+gx4)) fun x64=>qI (M37 th46.d_ x64 A60) fun s65 x66=>if x66≠0 then some ((⟨0,[],0⟩:Trecord),false) else qb (M60 s65 s42) fun b70=>if b70=true then qb (cut s65 (s42.length:Int) s65.length) fun s72=>qb (y8 gs3 s72) fun s73=>qb (i64 (gx4+1)) fun x74=>go1 s73 x74 else some ((⟨0,[],0⟩:Trecord),false) else qaV x35 x29 x23 gs3 gx4
def jV (x35:Int) (a1:Int) (A100:(List TLog)) (a0:Int) (A60:(List TDisk)) (s42:(List UInt8)) (x29:Int) (x23:Int):Nat→(List UInt8)→Int→Option (Trecord×Bool)
 | 0,_,_=>none
 | n+1,gs3,gx4=>vk (jV x35 a1 A100 a0 A60 s42 x29 x23 n) x35 a1 A100 a0 A60 s42 x29 x23 gs3 gx4
def M39 (a0:Int) (a1:Int) (a2:Int) (A60:(List TDisk)) (A100:(List TLog)):Option (Trecord×Bool) :=
 qb (idx A100 a0) fun th2=>if th2.size_≤a1 then some ((⟨0,[],0⟩:Trecord),false) else qb (i64 (th2.from_+a1)) fun x17=>qI (M37 th2.d_ x17 A60) fun s18 x19=>if x19≠0 then some ((⟨0,[],0⟩:Trecord),false) else zD (M67 s18 a2) fun x23 s24 b25=>if b25=true then zD (M68 s24) fun x28 x29 x30=>if x30≠0 then some ((⟨0,[],0⟩:Trecord),false) else if 300 < x28 then some ((⟨0,[],0⟩:Trecord),false) else qb (i64 (x29+(IntKind.wrap .i64 x28))) fun x34=>qb (i64 (x34+4)) fun x35=>qb (M69 ([2]) x23 a2) fun s42=>jV x35 a1 A100 a0 A60 s42 x29 x23 big s24 1 else some ((⟨0,[],0⟩:Trecord),false)
def M73 (a0:Int) (A60:(List TDisk)):Option ((List TDisk)×Int) :=
 qb (idx A60 a0) fun th1=>if th1.left_=0 then some (A60,13) else if 0 < th1.left_ then qb (i64 (th1.left_ - 1)) fun x4=>qb (upd A60 a0 (⟨th1.safe_,th1.seen_,th1.late_,x4⟩:TDisk)) fun l5=>some (l5,0) else some (A60,0)
def M44 (a0:Int) (a1:Int) (a2:(List UInt8)) (A60:(List TDisk)):Option ((List TDisk)×Int) :=
 if a1 < 0 then some (A60,1) else qb (idx A60 a0) fun th2=>if (th2.safe_.length:Int)≤a1 then some (A60,1) else if 64 < (a2.length:Int) then some (A60,2) else qI (M73 a0 A60) fun l5 x6=>if x6≠0 then some (l5,x6) else qb (i64 (64 - (a2.length:Int))) fun x10=>qb (xu ([0]) x10) fun s11=>qb (y8 a2 s11) fun s13=>qb (idx l5 a0) fun th14=>qb (idx th14.seen_ a1) fun x15=>qb (upd th14.seen_ a1 s13) fun l16=>qb (app th14.late_ ([(⟨a1,s13⟩:Twrite)])) fun l19=>qb (upd l5 a0 (⟨th14.safe_,l16,l19,th14.left_⟩:TDisk)) fun l20=>some (l20,0)
def M45 (a0:Int) (a1:Int) (A100:(List TLog)):Option ((List TLog)×Int) :=
 qb (idx A100 a0) fun th1=>if th1.fell_=true then qb (upd A100 a0 (⟨th1.d_,th1.from_,th1.size_,th1.epoch_,th1.at_,th1.seq_,true⟩:TLog)) fun l3=>some (l3,a1) else qb (upd A100 a0 (⟨th1.d_,th1.from_,th1.size_,th1.epoch_,th1.at_,th1.seq_,decide (a1≠0)⟩:TLog)) fun l5=>some (l5,a1)
def M46 (a0:Int) (A60:(List TDisk)):Option ((List TDisk)×Int) :=
 qI (M73 a0 A60) fun l1 x2=>if x2≠0 then some (l1,x2) else qb (idx l1 a0) fun th6=>qb (upd l1 a0 (⟨(cpy th6.safe_ th6.seen_),th6.seen_,[],th6.left_⟩:TDisk)) fun l9=>some (l9,0)
def M40 (a0:Int) (A60:(List TDisk)) (A100:(List TLog)):Option ((List TDisk)×(List TLog)×Int) :=
 qb (idx A100 a0) fun th1=>if 1000000≤th1.epoch_ then some (A60,A100,8) else qb (i64 (th1.epoch_+1)) fun x31=>qb (M66 x31) fun s32=>qI (M44 th1.d_ th1.from_ s32 A60) fun l34 x35=>if x35≠0 then qI (M45 a0 x35 A100) fun l40 x41=>some (l34,l40,x41) else qb (idx A100 a0) fun th44=>qI (M46 th44.d_ l34) fun l45 x46=>if x46≠0 then qI (M45 a0 x46 A100) fun l50 x51=>some (l45,l50,x51) else qb (idx A100 a0) fun th54=>qb (i64 (th54.epoch_+1)) fun x55=>qb (upd A100 a0 (⟨th54.d_,th54.from_,th54.size_,x55,th54.at_,th54.seq_,th54.fell_⟩:TLog)) fun l56=>some (l45,l56,0)
def yd (A60:(List TDisk)) (gx2:Int) (gl4:(List (List UInt8))) (gl6:(List TLog)):Option ((List TDisk)×(List TLog)×Int×(List (List UInt8))×Int) :=
 zD (M40 gx2 A60 gl6) fun l17 l18 x19=>qb (ck (l18.length=gl6.length)) fun _=>if x19≠0 then some (l17,l18,(-1),[],x19) else some (l17,l18,gx2,gl4,0)
def qaZ (gl12:(List TLog)) (x26:Int) (gx11:Int) (A60:(List TDisk)) (gl10:(List (List UInt8))) (go1:(List (List UInt8))→Int→(List TLog)→Option ((List TDisk)×(List TLog)×Int×(List (List UInt8))×Int)) (gx16:Int) (gs17:(List UInt8)) (gx18:Int) (gb19:Bool):Option ((List TDisk)×(List TLog)×Int×(List (List UInt8))×Int) :=
 if gb19=true then qb (idx gl12 x26) fun th32=>if gx16 < gx11 then yd A60 x26 gl10 gl12 else if th32.epoch_ < gx16 then yd A60 x26 gl10 gl12 else qb (i64 (th32.at_+gx18)) fun x39=>qb (app gl10 ([gs17])) fun l42=>qb (i64 (th32.seq_+1)) fun x43=>qb (upd gl12 x26 (⟨th32.d_,th32.from_,th32.size_,th32.epoch_,x39,x43,th32.fell_⟩:TLog)) fun l44=>go1 l42 gx16 l44 else qb (idx gl12 x26) fun th31=>yd A60 x26 gl10 gl12
def qcd (go1:(List (List UInt8))→Int→(List TLog)→Option ((List TDisk)×(List TLog)×Int×(List (List UInt8))×Int)) (x26:Int) (A60:(List TDisk)) (gl10:(List (List UInt8))) (gx11:Int) (gl12:(List TLog)):Option ((List TDisk)×(List TLog)×Int×(List (List UInt8))×Int) :=
 qb (idx gl12 x26) fun th46=>qI (M39 x26 th46.at_ th46.seq_ A60 gl12) fun x68 b69=>if b69=true then qaZ gl12 x26 gx11 A60 gl10 go1 x68.epoch_ x68.text_ x68.size_ true else qaZ gl12 x26 gx11 A60 gl10 go1 x68.epoch_ x68.text_ x68.size_ false
def yc (x26:Int) (A60:(List TDisk)):Nat→(List (List UInt8))→Int→(List TLog)→Option ((List TDisk)×(List TLog)×Int×(List (List UInt8))×Int)
 | 0,_,_,_=>none
 | n+1,gl10,gx11,gl12=>qcd (yc x26 A60 n) x26 A60 gl10 gx11 gl12
def qa0 (A60:(List TDisk)) (A100:(List TLog)) (a0:Int) (a1:Int) (a2:Int) (gb1:Bool):Option ((List TDisk)×(List TLog)×Int×(List (List UInt8))×Int) :=
 if gb1=true then some (A60,A100,(-1),[],1) else qb (M20 a0 A60) fun x1=>if x1 < a1 then some (A60,A100,(-1),[],1) else qb (M20 a0 A60) fun x4=>qb (i64 (x4 - a1)) fun x6=>if x6 < a2 then some (A60,A100,(-1),[],1) else qI (M37 a0 a1 A60) fun s9 x10=>if x10≠0 then some (A60,A100,(-1),[],x10) else qI (M38 s9) fun x13 x14=>if x14≠0 then some (A60,A100,(-1),[],x14) else qI (qcD A100 (⟨a0,a1,a2,x13,1,0,false⟩:TLog)) fun x26 l27=>yc x26 A60 big [] 0 l27
def M21 (a0:Int) (a1:Int) (a2:Int) (A60:(List TDisk)) (A100:(List TLog)):Option ((List TDisk)×(List TLog)×Int×(List (List UInt8))×Int) :=
 if a1 < 0 then qa0 A60 A100 a0 a1 a2 true else if a2 < 2 then qa0 A60 A100 a0 a1 a2 true else qa0 A60 A100 a0 a1 a2 false
def M71 (a0:(List UInt8)):Option ((List UInt8)×Int×Int) :=
 zD (M68 a0) fun x1 x2 x3=>if x3≠0 then some ([],0,x3) else if 4096 < x1 then some ([],0,2) else qb (i64 ((a0.length:Int) - x2)) fun x7=>if (IntKind.wrap .u64 x7) < x1 then some ([],0,3) else qb (i64 (x2+(IntKind.wrap .i64 x1))) fun x9=>qb (cut a0 x2 x9) fun s10=>qb (i64 (x2+(IntKind.wrap .i64 x1))) fun x11=>some (s10,x11,0)
def qcU (x1:Int) (a0:(List UInt8)) (x2:Int) (gb1:Bool):Option (Int×(List UInt8)×(List UInt8)×Bool) :=
 if gb1=true then some (0,[],[],false) else if 20≤x1 then some (0,[],[],false) else qb (cut a0 x2 a0.length) fun s6=>zD (M71 s6) fun s7 x8 x9=>if x9≠0 then some (0,[],[],false) else if 20 < (s7.length:Int) then some (0,[],[],false) else qb (i64 (x2+x8)) fun x13=>qb (cut a0 x13 a0.length) fun s14=>some (x1,s7,s14,true)
def M42 (a0:(List UInt8)):Option (Int×(List UInt8)×(List UInt8)×Bool) :=
 zD (M41 a0) fun x1 x2 x3=>if x3≠0 then qcU x1 a0 x2 true else if x1 < 0 then qcU x1 a0 x2 true else qcU x1 a0 x2 false
def qgn (gx1:Int) (gb2:Bool) (gl3:(List (List UInt8))):Option (qn×Bool) :=
 qb (qQ 20 gl3) fun _=>some ((⟨gx1,gb2,gl3⟩:qn),true)
def kn (gx4:Int) (go1:Int→Int→Bool→(List (List UInt8))→Option (qn×Bool)) (gx8:Int) (gb9:Bool) (gl10:(List (List UInt8))):Option (qn×Bool) :=
 qb (i64 (gx4+1)) fun x6=>go1 x6 gx8 gb9 gl10
def qcb (go2:(List UInt8)→(List (List UInt8))→Option (qn×Bool)) (gx5:Int) (gb6:Bool) (gx4:Int) (go1:Int→Int→Bool→(List (List UInt8))→Option (qn×Bool)) (gs15:(List UInt8)) (gl16:(List (List UInt8))):Option (qn×Bool) :=
 if gs15≠[] then wI (M42 gs15) fun x14 s15 s16 b17=>if b17=true then qb (za 20 gl16 x14) fun x20=>qb (upd gl16 x14 s15) fun l21=>go2 s16 l21 else qb (qQ 20 gl16) fun _=>some ((⟨gx5,gb6,gl16⟩:qn),false) else kn gx4 go1 gx5 gb6 gl16
def yb (gx5:Int) (gb6:Bool) (gx4:Int) (go1:Int→Int→Bool→(List (List UInt8))→Option (qn×Bool)):Nat→(List UInt8)→(List (List UInt8))→Option (qn×Bool)
 | 0,_,_=>none
 | n+1,gs15,gl16=>qcb (yb gx5 gb6 gx4 go1 n) gx5 gb6 gx4 go1 gs15 gl16
def qc7 (gx5:Int) (gb6:Bool) (gx4:Int) (go1:Int→Int→Bool→(List (List UInt8))→Option (qn×Bool)) (s11:(List UInt8)) (gl7:(List (List UInt8))) (gb14:Bool):Option (qn×Bool) :=
 if gb14=true then yb gx5 gb6 gx4 go1 big s11 gl7 else qb (qQ 20 gl7) fun _=>some ((⟨gx5,gb6,gl7⟩:qn),false)
def qca (go3:(List UInt8)→(List (List UInt8))→Option (qn×Bool)) (gx5:Int) (gb6:Bool) (gx4:Int) (go1:Int→Int→Bool→(List (List UInt8))→Option (qn×Bool)) (gs17:(List UInt8)) (gl18:(List (List UInt8))):Option (qn×Bool) :=
 if gs17≠[] then wI (M42 gs17) fun x26 s27 s28 b29=>if b29=true then qb (za 20 gl18 x26) fun x32=>qb (upd gl18 x26 s27) fun l33=>go3 s28 l33 else qb (qQ 20 gl18) fun _=>some ((⟨gx5,gb6,gl18⟩:qn),false) else kn gx4 go1 gx5 gb6 gl18
def ya (gx5:Int) (gb6:Bool) (gx4:Int) (go1:Int→Int→Bool→(List (List UInt8))→Option (qn×Bool)):Nat→(List UInt8)→(List (List UInt8))→Option (qn×Bool)
 | 0,_,_=>none
 | n+1,gs17,gl18=>qca (ya gx5 gb6 gx4 go1 n) gx5 gb6 gx4 go1 gs17 gl18
def qaY (gx5:Int) (gb6:Bool) (gx4:Int) (go1:Int→Int→Bool→(List (List UInt8))→Option (qn×Bool)) (s11:(List UInt8)) (gl7:(List (List UInt8))) (s10:(List UInt8)) (gb13:Bool):Option (qn×Bool) :=
 if gb13=true then ya gx5 gb6 gx4 go1 big s11 gl7 else if s10=([67]) then if gb6=true then qc7 gx5 gb6 gx4 go1 s11 gl7 true else qc7 gx5 gb6 gx4 go1 s11 gl7 false else qc7 gx5 gb6 gx4 go1 s11 gl7 false
def qg3 (go4:(List UInt8)→(List (List UInt8))→Option (qn×Bool)) (gx5:Int) (gb6:Bool) (gx4:Int) (go1:Int→Int→Bool→(List (List UInt8))→Option (qn×Bool)) (gs21:(List UInt8)) (gl22:(List (List UInt8))):Option (qn×Bool) :=
 if gs21≠[] then wI (M42 gs21) fun x40 s41 s42 b43=>if b43=true then qb (za 20 gl22 x40) fun x46=>qb (upd gl22 x40 s41) fun l47=>go4 s42 l47 else qb (qQ 20 gl22) fun _=>some ((⟨gx5,gb6,gl22⟩:qn),false) else kn gx4 go1 gx5 gb6 gl22
def qc5 (gx5:Int) (gb6:Bool) (gx4:Int) (go1:Int→Int→Bool→(List (List UInt8))→Option (qn×Bool)):Nat→(List UInt8)→(List (List UInt8))→Option (qn×Bool)
 | 0,_,_=>none
 | n+1,gs21,gl22=>qg3 (qc5 gx5 gb6 gx4 go1 n) gx5 gb6 gx4 go1 gs21 gl22
def qeY (gx5:Int) (gb6:Bool) (gx4:Int) (go1:Int→Int→Bool→(List (List UInt8))→Option (qn×Bool)) (s11:(List UInt8)) (gl7:(List (List UInt8))) (gb20:Bool):Option (qn×Bool) :=
 if gb20=true then qc5 gx5 gb6 gx4 go1 big s11 gl7 else qb (qQ 20 gl7) fun _=>some ((⟨gx5,gb6,gl7⟩:qn),false)
def qg2 (go5:(List UInt8)→(List (List UInt8))→Option (qn×Bool)) (gx5:Int) (gb6:Bool) (gx4:Int) (go1:Int→Int→Bool→(List (List UInt8))→Option (qn×Bool)) (gs23:(List UInt8)) (gl24:(List (List UInt8))):Option (qn×Bool) :=
 if gs23≠[] then wI (M42 gs23) fun x52 s53 s54 b55=>if b55=true then qb (za 20 gl24 x52) fun x58=>qb (upd gl24 x52 s53) fun l59=>go5 s54 l59 else qb (qQ 20 gl24) fun _=>some ((⟨gx5,gb6,gl24⟩:qn),false) else kn gx4 go1 gx5 gb6 gl24
def qc4 (gx5:Int) (gb6:Bool) (gx4:Int) (go1:Int→Int→Bool→(List (List UInt8))→Option (qn×Bool)):Nat→(List UInt8)→(List (List UInt8))→Option (qn×Bool)
 | 0,_,_=>none
 | n+1,gs23,gl24=>qg2 (qc4 gx5 gb6 gx4 go1 n) gx5 gb6 gx4 go1 gs23 gl24
def qeZ (gx5:Int) (gb6:Bool) (gx4:Int) (go1:Int→Int→Bool→(List (List UInt8))→Option (qn×Bool)) (s11:(List UInt8)) (gl7:(List (List UInt8))) (s10:(List UInt8)) (gb19:Bool):Option (qn×Bool) :=
 if gb19=true then qc4 gx5 gb6 gx4 go1 big s11 gl7 else if s10=([67]) then if gb6=true then qeY gx5 gb6 gx4 go1 s11 gl7 true else qeY gx5 gb6 gx4 go1 s11 gl7 false else qeY gx5 gb6 gx4 go1 s11 gl7 false
def qai (s11:(List UInt8)) (gx4:Int) (go1:Int→Int→Bool→(List (List UInt8))→Option (qn×Bool)) (gx5:Int) (gl7:(List (List UInt8))) (s10:(List UInt8)) (gb6:Bool) (gb12:Bool):Option (qn×Bool) :=
 if gb12=true then if s11=[] then kn gx4 go1 gx5 true gl7 else if s10=([83]) then if gb6=true then qeZ gx5 gb6 gx4 go1 s11 gl7 s10 false else qeZ gx5 gb6 gx4 go1 s11 gl7 s10 true else qeZ gx5 gb6 gx4 go1 s11 gl7 s10 false else if s10=([83]) then if gb6=true then qaY gx5 gb6 gx4 go1 s11 gl7 s10 false else qaY gx5 gb6 gx4 go1 s11 gl7 s10 true else qaY gx5 gb6 gx4 go1 s11 gl7 s10 false
def qc6 (gl7:(List (List UInt8))) (gx5:Int) (gb6:Bool) (x66:Int) (s11:(List UInt8)) (gx4:Int) (go1:Int→Int→Bool→(List (List UInt8))→Option (qn×Bool)) (x65:Int) (gb25:Bool):Option (qn×Bool) :=
 if gb25=true then qb (qQ 20 gl7) fun _=>some ((⟨gx5,gb6,gl7⟩:qn),false) else if x66≠(s11.length:Int) then qb (qQ 20 gl7) fun _=>some ((⟨gx5,gb6,gl7⟩:qn),false) else kn gx4 go1 x65 false gl7
def qaj (s11:(List UInt8)) (gl7:(List (List UInt8))) (gx5:Int) (gb6:Bool) (gx4:Int) (go1:Int→Int→Bool→(List (List UInt8))→Option (qn×Bool)) (s10:(List UInt8)) (gb11:Bool):Option (qn×Bool) :=
 if gb11=true then zD (M41 s11) fun x65 x66 x67=>if x67≠0 then qc6 gl7 gx5 gb6 x66 s11 gx4 go1 x65 true else if x65 < 1 then qc6 gl7 gx5 gb6 x66 s11 gx4 go1 x65 true else qc6 gl7 gx5 gb6 x66 s11 gx4 go1 x65 false else if s10=([68]) then if gb6=true then qai s11 gx4 go1 gx5 gl7 s10 gb6 false else qai s11 gx4 go1 gx5 gl7 s10 gb6 true else qai s11 gx4 go1 gx5 gl7 s10 gb6 false
def xp (s11:(List UInt8)) (gl7:(List (List UInt8))) (gx5:Int) (gb6:Bool) (gx4:Int) (go1:Int→Int→Bool→(List (List UInt8))→Option (qn×Bool)) (s10:(List UInt8)) (gb26:Bool):Option (qn×Bool) :=
 if gb26=true then qaj s11 gl7 gx5 gb6 gx4 go1 s10 true else qaj s11 gl7 gx5 gb6 gx4 go1 s10 false
def qcc (go1:Int→Int→Bool→(List (List UInt8))→Option (qn×Bool)) (a0:(List (List UInt8))) (gx4:Int) (gx5:Int) (gb6:Bool) (gl7:(List (List UInt8))):Option (qn×Bool) :=
 if gx4 < (a0.length:Int) then qb (idx a0 gx4) fun x7=>if x7=[] then qb (qQ 20 gl7) fun _=>some ((⟨gx5,gb6,gl7⟩:qn),false) else qb (cut x7 0 1) fun s10=>qb (cut x7 1 x7.length) fun s11=>if s10=([72]) then if gx4=0 then xp s11 gl7 gx5 gb6 gx4 go1 s10 true else xp s11 gl7 gx5 gb6 gx4 go1 s10 false else xp s11 gl7 gx5 gb6 gx4 go1 s10 false else qgn gx5 gb6 gl7
def xN (a0:(List (List UInt8))):Nat→Int→Int→Bool→(List (List UInt8))→Option (qn×Bool)
 | 0,_,_,_,_=>none
 | n+1,gx4,gx5,gb6,gl7=>qcc (xN a0 n) a0 gx4 gx5 gb6 gl7
def M22 (a0:(List (List UInt8))):Option (qn×Bool) :=
 qb (qQ 20 (List.replicate 20 ([]:(List UInt8)))) fun _=>xN a0 big 0 0 true (List.replicate 20 ([]:(List UInt8)))
def qgs (l52:(List TDisk)) (l53:(List TLog)) (gx2:Int) (gl4:(List TStore)):Option ((List TDisk)×(List TStore)×(List TLog)×Int×Int) :=
 some (l52,gl4,l53,gx2,0)
def qcl (go1:Int→(List TStore)→Option ((List TDisk)×(List TStore)×(List TLog)×Int×Int)) (x19:qn) (x97:Int) (l52:(List TDisk)) (l53:(List TLog)) (gx7:Int) (gl8:(List TStore)):Option ((List TDisk)×(List TStore)×(List TLog)×Int×Int) :=
 if gx7 < 20 then qb (za 20 x19.values_ gx7) fun x103=>qb (idx gl8 x97) fun th105=>qb (za 20 th105.items_ gx7) fun x106=>qb (qQ 2 th105.logs_) fun _=>qb (upd th105.items_ gx7 ([(⟨0,x103⟩:TVersion)])) fun l108=>qb (i64 (gx7+1)) fun x110=>qb (upd gl8 x97 (⟨th105.logs_,th105.half_,th105.gen_,th105.down_,th105.now_,l108,th105.active_,th105.over_⟩:TStore)) fun l112=>go1 x110 l112 else qgs l52 l53 x97 gl8
def ym (x19:qn) (x97:Int) (l52:(List TDisk)) (l53:(List TLog)):Nat→Int→(List TStore)→Option ((List TDisk)×(List TStore)×(List TLog)×Int×Int)
 | 0,_,_=>none
 | n+1,gx7,gl8=>qcl (ym x19 x97 l52 l53 n) x19 x97 l52 l53 gx7 gl8
def qgr (l52:(List TDisk)) (l53:(List TLog)) (gx11:Int) (gl13:(List TStore)):Option ((List TDisk)×(List TStore)×(List TLog)×Int×Int) :=
 some (l52,gl13,l53,gx11,0)
def qck (go2:Int→(List TStore)→Option ((List TDisk)×(List TStore)×(List TLog)×Int×Int)) (x63:qn) (x117:Int) (l52:(List TDisk)) (l53:(List TLog)) (gx16:Int) (gl17:(List TStore)):Option ((List TDisk)×(List TStore)×(List TLog)×Int×Int) :=
 if gx16 < 20 then qb (za 20 x63.values_ gx16) fun x123=>qb (idx gl17 x117) fun th125=>qb (za 20 th125.items_ gx16) fun x126=>qb (qQ 2 th125.logs_) fun _=>qb (upd th125.items_ gx16 ([(⟨0,x123⟩:TVersion)])) fun l128=>qb (i64 (gx16+1)) fun x130=>qb (upd gl17 x117 (⟨th125.logs_,th125.half_,th125.gen_,th125.down_,th125.now_,l128,th125.active_,th125.over_⟩:TStore)) fun l132=>go2 x130 l132 else qgr l52 l53 x117 gl17
def yl (x63:qn) (x117:Int) (l52:(List TDisk)) (l53:(List TLog)):Nat→Int→(List TStore)→Option ((List TDisk)×(List TStore)×(List TLog)×Int×Int)
 | 0,_,_=>none
 | n+1,gx16,gl17=>qck (yl x63 x117 l52 l53 n) x63 x117 l52 l53 gx16 gl17
def qao (l90:(List Int)) (x63:qn) (A70:(List TStore)) (l52:(List TDisk)) (l53:(List TLog)) (x19:qn) (gb1:Bool):Option ((List TDisk)×(List TStore)×(List TLog)×Int×Int) :=
 if gb1=true then qb (qQ 2 l90) fun _=>if x63.whole_=true then qI (qcD A70 (⟨l90,1,x63.gen_,false,0,(List.replicate 20 ([]:(List TVersion))),[],[]⟩:TStore)) fun x117 l118=>yl x63 x117 l52 l53 big 0 l118 else some (l52,A70,l53,(-1),4) else qb (qQ 2 l90) fun _=>if x19.whole_=true then qI (qcD A70 (⟨l90,0,x19.gen_,false,0,(List.replicate 20 ([]:(List TVersion))),[],[]⟩:TStore)) fun x97 l98=>ym x19 x97 l52 l53 big 0 l98 else some (l52,A70,l53,(-1),4)
def M10 (a0:Int) (A60:(List TDisk)) (A70:(List TStore)) (A100:(List TLog)):Option ((List TDisk)×(List TStore)×(List TLog)×Int×Int) :=
 qb (M20 a0 A60) fun x1=>qb (qgV .i64 x1 2) fun x3=>qb (i64 (0*x3)) fun x6=>qb (ck ((∀ x∈A70,TStore.ok100 A100.length x)∧(wJ (List.replicate 2 ((-1):Int)) A100.length=true))) fun _=>vq (M21 a0 x6 x3 A60 A100) fun l8 l9 x10 l11 x13=>if x13≠0 then some (l8,A70,l9,(-1),x13) else qI (M22 l11) fun x19 b20=>if b20=true then qb (qQ 20 (List.replicate 20 ([]:(List UInt8)))) fun _=>qb (qQ 20 x19.values_) fun _=>qb (za 2 (List.replicate 2 ((-1):Int)) 0) fun x46=>qb (upd (List.replicate 2 ((-1):Int)) 0 x10) fun l47=>qb (i64 (1*x3)) fun x50=>qb (ck ((∀ x∈A70,TStore.ok100 l9.length x)∧(wJ l47 l9.length=true))) fun _=>vq (M21 a0 x50 x3 l8 l9) fun l52 l53 x54 l55 x57=>if x57≠0 then some (l52,A70,l53,(-1),x57) else qI (M22 l55) fun x63 b64=>if b64=true then qb (qQ 20 x63.values_) fun _=>qb (za 2 l47 1) fun x89=>qb (upd l47 1 x54) fun l90=>if x63.whole_=true then if x19.gen_ < x63.gen_ then qao l90 x63 A70 l52 l53 x19 true else if x19.whole_=true then qao l90 x63 A70 l52 l53 x19 false else qao l90 x63 A70 l52 l53 x19 true else qao l90 x63 A70 l52 l53 x19 false else qb (qQ 20 x63.values_) fun _=>some (l52,A70,l53,(-1),4) else qb (qQ 20 (List.replicate 20 ([]:(List UInt8)))) fun _=>qb (qQ 20 x19.values_) fun _=>some (l8,A70,l9,(-1),4)
def M6 (a0:Int) (A60:(List TDisk)) (A70:(List TStore)) (A100:(List TLog)):Option ((List TDisk)×(List TStore)×(List TLog)×Int×Int×Bool) :=
 qb (ck (∀ x∈A100,TLog.ok60 A60.length x)) fun _=>zD (M17 a0 A60) fun l2 x3 x4=>if x4≠0 then some (l2,A70,A100,(-1),(-1),false) else if x3 < 0 then some (l2,A70,A100,(-1),(-1),false) else vq (M10 x3 l2 A70 A100) fun l10 l11 l12 x13 x14=>qb (ck (l10.length=l2.length)) fun _=>if x14=0 then some (l10,l11,l12,x3,x13,decide (0≤x13)) else some (l10,l11,l12,x3,x13,false)
def qc3 (th1:TStore) (gx1:Int):Option Int :=
 if gx1 < 0 then some (-1) else qb (idx th1.active_ gx1) fun x6=>some x6
def qgm (th1:TStore):Option Int :=
 qc3 th1 (-1)
def qgl (th1:TStore) (gx2:Int) (go1:Int→Option Int) (gb3:Bool):Option Int :=
 if gb3=true then qc3 th1 gx2 else qb (i64 (gx2+1)) fun x9=>go1 x9
def qb8 (go1:Int→Option Int) (th1:TStore) (A88:(List Ttx)) (a1:Int) (gx2:Int):Option Int :=
 if gx2 < (th1.active_.length:Int) then qb (idx th1.active_ gx2) fun x8=>qb (idx A88 x8) fun th10=>qgl th1 gx2 go1 (decide (th10.id_=a1)) else qgm th1
def w9 (th1:TStore) (A88:(List Ttx)) (a1:Int):Nat→Int→Option Int
 | 0,_=>none
 | n+1,gx2=>qb8 (w9 th1 A88 a1 n) th1 A88 a1 gx2
def M29 (a0:Int) (a1:Int) (A70:(List TStore)) (A88:(List Ttx)):Option Int :=
 qb (idx A70 a0) fun th1=>qb (qQ 2 th1.logs_) fun _=>qb (qQ 20 th1.items_) fun _=>w9 th1 A88 a1 big 0
def qak (A70:(List TStore)) (A88:(List Ttx)) (a0:Int) (a1:Int) (gb1:Bool):Option ((List TStore)×(List Ttx)×Int) :=
 if gb1=true then some (A70,A88,1) else qb (M29 a0 a1 A70 A88) fun x4=>qb (idx A70 a0) fun th6=>if 0≤x4 then some (A70,A88,7) else qb (qQ 2 th6.logs_) fun _=>qb (qQ 20 th6.items_) fun _=>qb (ck ((∀ x∈A70,TStore.ok88 A88.length x)∧(∀ k∈th6.active_,k < A88.length)∧(∀ k∈th6.over_,k < A88.length))) fun _=>qI (qcD A88 (⟨a1,th6.now_,0,[],[],(List.replicate 20 ([]:(List UInt8))),false,false⟩:Ttx)) fun x68 l69=>qb (app th6.active_ ([x68])) fun l75=>qb (upd A70 a0 (⟨th6.logs_,th6.half_,th6.gen_,th6.down_,th6.now_,th6.items_,l75,th6.over_⟩:TStore)) fun l78=>some (l78,l69,0)
def M14 (a0:Int) (a1:Int) (A70:(List TStore)) (A88:(List Ttx)):Option ((List TStore)×(List Ttx)×Int) :=
 qb (idx A70 a0) fun th1=>qb (qQ 2 th1.logs_) fun _=>if th1.down_=true then some (A70,A88,13) else if a1 < 0 then qak A70 A88 a0 a1 true else if 12≤a1 then qak A70 A88 a0 a1 true else qak A70 A88 a0 a1 false
def qah (a2:Int) (a0:Int) (a1:Int) (A70:(List TStore)) (A88:(List Ttx)) (gb1:Bool):Option (Int×Int) :=
 if gb1=true then some ((-1),1) else if a2 < 0 then some ((-1),1) else if 20≤a2 then some ((-1),1) else qb (M29 a0 a1 A70 A88) fun x6=>qb (idx A70 a0) fun th8=>if 0≤x6 then some (x6,0) else some ((-1),6)
def M30 (a0:Int) (a1:Int) (a2:Int) (A70:(List TStore)) (A88:(List Ttx)):Option (Int×Int) :=
 qb (idx A70 a0) fun th1=>qb (qQ 2 th1.logs_) fun _=>if th1.down_=true then some ((-1),13) else if a1 < 0 then qah a2 a0 a1 A70 A88 true else if 12≤a1 then qah a2 a0 a1 A70 A88 true else qah a2 a0 a1 A70 A88 false
def qgg:Option Int :=
 some (-1)
def qbM (go1:Int→Option Int) (a0:(List Int)) (a1:Int) (gx1:Int):Option Int :=
 if gx1 < (a0.length:Int) then qb (idx a0 gx1) fun x2=>if a1=x2 then some gx1 else qb (i64 (gx1+1)) fun x4=>go1 x4 else qgg
def wS (a0:(List Int)) (a1:Int):Nat→Int→Option Int
 | 0,_=>none
 | n+1,gx1=>qbM (wS a0 a1 n) a0 a1 gx1
def M51 (a0:(List Int)) (a1:Int):Option Int :=
 wS a0 a1 big 0
def M31 (a0:(List Int)) (a1:Int):Option Bool :=
 qb (M51 a0 a1) fun x1=>some (decide (0≤x1))
def M15 (a0:Int) (a1:Int) (a2:Int) (a3:(List UInt8)) (A70:(List TStore)) (A88:(List Ttx)):Option ((List Ttx)×Int) :=
 qb (idx A70 a0) fun th1=>qI (M30 a0 a1 a2 A70 A88) fun x2 x3=>qb (idx A70 a0) fun th5=>if x3≠0 then some (A88,x3) else if 20 < (a3.length:Int) then some (A88,2) else qb (idx A88 x2) fun th8=>qb (M31 th8.writes_ a2) fun b9=>if b9=true then qb (za 20 th8.texts_ a2) fun x18=>qb (upd th8.texts_ a2 a3) fun l19=>qb (upd A88 x2 (⟨th8.id_,th8.from_,th8.at_,th8.reads_,th8.writes_,l19,th8.in_,th8.out_⟩:Ttx)) fun l21=>some (l21,0) else qb (app th8.writes_ ([a2])) fun l13=>qb (za 20 th8.texts_ a2) fun x14=>qb (upd th8.texts_ a2 a3) fun l15=>qb (upd A88 x2 (⟨th8.id_,th8.from_,th8.at_,th8.reads_,l13,l15,th8.in_,th8.out_⟩:Ttx)) fun l17=>some (l17,0)
def qh4 (gb1:Bool):Option Bool :=
 some gb1
def qgf (gx2:Int):Option Bool :=
 qh4 (decide (0≤gx2))
def qh3:Option Bool :=
 qgf (-1)
def qge (gx3:Int) (go1:Int→Option Bool) (gb4:Bool):Option Bool :=
 if gb4=true then qgf gx3 else qb (i64 (gx3+1)) fun x4=>go1 x4
def qbL (go1:Int→Option Bool) (a0:(List Int)) (a1:(List Int)) (gx3:Int):Option Bool :=
 if gx3 < (a0.length:Int) then qb (idx a0 gx3) fun x3=>qb (M31 a1 x3) fun b5=>qge gx3 go1 b5 else qh3
def wR (a0:(List Int)) (a1:(List Int)):Nat→Int→Option Bool
 | 0,_=>none
 | n+1,gx3=>qbL (wR a0 a1 n) a0 a1 gx3
def M52 (a0:(List Int)) (a1:(List Int)):Option Bool :=
 wR a0 a1 big 0
def qgk (gl2:(List Int)) (gl4:(List Int)) (gb5:Bool) (gb6:Bool):Option ((List Int)×(List Int)×Bool) :=
 if gb5=true then some (gl2,gl4,(!gb6)) else some (gl2,gl4,true)
def qc0 (gx13:Int) (go1:(List Int)→(List Int)→Bool→Bool→Int→Option ((List Int)×(List Int)×Bool)) (gl17:(List Int)) (gl19:(List Int)) (gb21:Bool):Option ((List Int)×(List Int)×Bool) :=
 if gb21=true then qb (i64 (gx13+1)) fun x13=>go1 gl17 gl19 true false x13 else qb (i64 (gx13+1)) fun x12=>go1 gl17 gl19 false false x12
def qcZ (gx13:Int) (go1:(List Int)→(List Int)→Bool→Bool→Int→Option ((List Int)×(List Int)×Bool)) (gl17:(List Int)) (gl19:(List Int)) (gb22:Bool):Option ((List Int)×(List Int)×Bool) :=
 if gb22=true then qb (i64 (gx13+1)) fun x17=>go1 gl17 gl19 true true x17 else qb (i64 (gx13+1)) fun x16=>go1 gl17 gl19 false true x16
def qc1 (gb11:Bool) (gx13:Int) (go1:(List Int)→(List Int)→Bool→Bool→Int→Option ((List Int)×(List Int)×Bool)) (gl17:(List Int)) (gl19:(List Int)) (gb15:Bool) (gb20:Bool):Option ((List Int)×(List Int)×Bool) :=
 if gb20=true then if gb11=true then qcZ gx13 go1 gl17 gl19 true else if gb15=true then qcZ gx13 go1 gl17 gl19 true else qcZ gx13 go1 gl17 gl19 false else if gb11=true then qc0 gx13 go1 gl17 gl19 true else if gb15=true then qc0 gx13 go1 gl17 gl19 true else qc0 gx13 go1 gl17 gl19 false
def qc2 (gb12:Bool) (gb11:Bool) (gx13:Int) (go1:(List Int)→(List Int)→Bool→Bool→Int→Option ((List Int)×(List Int)×Bool)) (gl17:(List Int)) (gb15:Bool) (gb14:Bool) (gl19:(List Int)):Option ((List Int)×(List Int)×Bool) :=
 if gb12=true then qc1 gb11 gx13 go1 gl17 gl19 gb15 true else if gb14=true then qc1 gb11 gx13 go1 gl17 gl19 gb15 true else qc1 gb11 gx13 go1 gl17 gl19 gb15 false
def qeV (gb15:Bool) (gl10:(List Int)) (x6:Int) (gb12:Bool) (gb11:Bool) (gx13:Int) (go1:(List Int)→(List Int)→Bool→Bool→Int→Option ((List Int)×(List Int)×Bool)) (gb14:Bool) (gl17:(List Int)):Option ((List Int)×(List Int)×Bool) :=
 if gb15=true then qb (app gl10 ([x6])) fun l25=>qc2 gb12 gb11 gx13 go1 gl17 gb15 gb14 l25 else qc2 gb12 gb11 gx13 go1 gl17 gb15 gb14 gl10
def qeW (gb14:Bool) (gl8:(List Int)) (x6:Int) (gb15:Bool) (gl10:(List Int)) (gb12:Bool) (gb11:Bool) (gx13:Int) (go1:(List Int)→(List Int)→Bool→Bool→Int→Option ((List Int)×(List Int)×Bool)):Option ((List Int)×(List Int)×Bool) :=
 if gb14=true then qb (app gl8 ([x6])) fun l29=>qeV gb15 gl10 x6 gb12 gb11 gx13 go1 gb14 l29 else qeV gb15 gl10 x6 gb12 gb11 gx13 go1 gb14 gl8
def vl (gb14:Bool) (gl8:(List Int)) (x6:Int) (gb15:Bool) (gl10:(List Int)) (gb12:Bool) (gb11:Bool) (gx13:Int) (go1:(List Int)→(List Int)→Bool→Bool→Int→Option ((List Int)×(List Int)×Bool)) (gb24:Bool):Option ((List Int)×(List Int)×Bool) :=
 if gb24=true then some ([],[],false) else qeW gb14 gl8 x6 gb15 gl10 gb12 gb11 gx13 go1
def w8 (gb15:Bool) (th31:Ttx) (gb14:Bool) (gl8:(List Int)) (x6:Int) (gl10:(List Int)) (gb12:Bool) (gb11:Bool) (gx13:Int) (go1:(List Int)→(List Int)→Bool→Bool→Int→Option ((List Int)×(List Int)×Bool)) (gb23:Bool):Option ((List Int)×(List Int)×Bool) :=
 if gb23=true then some ([],[],false) else if gb15=true then qb (qQ 20 th31.texts_) fun _=>if th31.in_=true then vl gb14 gl8 x6 gb15 gl10 gb12 gb11 gx13 go1 true else vl gb14 gl8 x6 gb15 gl10 gb12 gb11 gx13 go1 false else vl gb14 gl8 x6 gb15 gl10 gb12 gb11 gx13 go1 false
def qag (A88:(List Ttx)) (a1:Int) (x6:Int) (gl8:(List Int)) (gl10:(List Int)) (gb12:Bool) (gb11:Bool) (gx13:Int) (go1:(List Int)→(List Int)→Bool→Bool→Int→Option ((List Int)×(List Int)×Bool)) (gb14:Bool) (gb15:Bool):Option ((List Int)×(List Int)×Bool) :=
 qb (idx A88 a1) fun th30=>qb (idx A88 x6) fun th31=>qb (M52 th30.writes_ th31.writes_) fun b35=>if b35=true then w8 gb15 th31 gb14 gl8 x6 gl10 gb12 gb11 gx13 go1 true else if gb14=true then qb (qQ 20 th31.texts_) fun _=>if th31.out_=true then w8 gb15 th31 gb14 gl8 x6 gl10 gb12 gb11 gx13 go1 true else if gb15=true then w8 gb15 th31 gb14 gl8 x6 gl10 gb12 gb11 gx13 go1 true else w8 gb15 th31 gb14 gl8 x6 gl10 gb12 gb11 gx13 go1 false else w8 gb15 th31 gb14 gl8 x6 gl10 gb12 gb11 gx13 go1 false
def qb7 (go1:(List Int)→(List Int)→Bool→Bool→Int→Option ((List Int)×(List Int)×Bool)) (th1:TStore) (A88:(List Ttx)) (a1:Int) (gl8:(List Int)) (gl10:(List Int)) (gb11:Bool) (gb12:Bool) (gx13:Int):Option ((List Int)×(List Int)×Bool) :=
 if gx13 < (th1.over_.length:Int) then qb (idx th1.over_ gx13) fun x6=>qb (idx A88 x6) fun th7=>qb (idx A88 a1) fun th8=>qb (ck (a1≠x6)) fun _=>if th7.at_≤th8.from_ then qb (i64 (gx13+1)) fun x11=>go1 gl8 gl10 gb11 gb12 x11 else qb (M52 th8.reads_ th7.writes_) fun b41=>if b41=true then qb (M52 th7.reads_ th8.writes_) fun b45=>if b45=true then qag A88 a1 x6 gl8 gl10 gb12 gb11 gx13 go1 true true else qag A88 a1 x6 gl8 gl10 gb12 gb11 gx13 go1 true false else qb (M52 th7.reads_ th8.writes_) fun b43=>if b43=true then qag A88 a1 x6 gl8 gl10 gb12 gb11 gx13 go1 false true else qag A88 a1 x6 gl8 gl10 gb12 gb11 gx13 go1 false false else qgk gl8 gl10 gb11 gb12
def jd (th1:TStore) (A88:(List Ttx)) (a1:Int):Nat→(List Int)→(List Int)→Bool→Bool→Int→Option ((List Int)×(List Int)×Bool)
 | 0,_,_,_,_,_=>none
 | n+1,gl8,gl10,gb11,gb12,gx13=>qb7 (jd th1 A88 a1 n) th1 A88 a1 gl8 gl10 gb11 gb12 gx13
def M32 (a0:Int) (a1:Int) (A70:(List TStore)) (A88:(List Ttx)):Option ((List Int)×(List Int)×Bool) :=
 qb (idx A70 a0) fun th1=>qb (qQ 2 th1.logs_) fun _=>qb (qQ 20 th1.items_) fun _=>jd th1 A88 a1 big [] [] false false 0
def M76 (a0:(List TVersion)):Option (List TVersion) :=
 qb (app [] a0) fun l3=>some l3
def qf9:Option Int :=
 some 0
def qbG (go1:Int→Option Int) (a1:(List Int)) (a2:Int) (gx1:Int):Option Int :=
 if gx1 < (a1.length:Int) then qb (idx a1 gx1) fun x5=>if x5 < 0 then some 1 else if a2 < x5 then some 1 else qb (i64 (gx1+1)) fun x8=>go1 x8 else qf9
def wM (a1:(List Int)) (a2:Int):Nat→Int→Option Int
 | 0,_=>none
 | n+1,gx1=>qbG (wM a1 a2 n) a1 a2 gx1
def qga (a1:(List Int)) (a2:Int):Option Int :=
 wM a1 a2 big 0
def qbF (go2:Int→Int→Option Int) (a0:(List TVersion)) (a2:Int) (a1:(List Int)) (gx2:Int) (gx3:Int):Option Int :=
 if gx3 < (a0.length:Int) then qb (idx a0 gx3) fun x10=>if x10.At≤gx2 then some 4 else if a2 < x10.At then some 4 else qb (i64 (gx3+1)) fun x14=>go2 x10.At x14 else qga a1 a2
def wL (a0:(List TVersion)) (a2:Int) (a1:(List Int)):Nat→Int→Int→Option Int
 | 0,_,_=>none
 | n+1,gx2,gx3=>qbF (wL a0 a2 a1 n) a0 a2 a1 gx2 gx3
def M94 (a0:(List TVersion)) (a1:(List Int)) (a2:Int):Option Int :=
 if 100 < (a0.length:Int) then some 2 else if 12 < (a1.length:Int) then some 2 else if a2 < 0 then some 1 else wL a0 a2 a1 big 0 0
def M57 (a0:(List Int)):Option (List Int) :=
 qb (app [] a0) fun l3=>some l3
def qkv (a0:TVersion) (a1:Int):Option Int :=
 if a0.At≤a1 then some (-1) else some 1
def qcS (gx1:Int) (gb2:Bool):Option Int :=
 qb (i64 (gx1 - 1)) fun x1=>some x1
def qcR (gx3:Int) (gx4:Int):Option Int :=
 qcS gx3 (decide (gx4=0))
def qf8 (a0:(List TVersion)) (a1:Int) (gx3:Int):Option Int :=
 if gx3 < (a0.length:Int) then qb (idx a0 gx3) fun x3=>if x3.At≤a1 then qcR gx3 (-1) else qcR gx3 1 else qcS gx3 false
def qeI (x8:Int) (go1:Int→Int→Option Int) (gx6:Int) (gx5:Int) (gx7:Int):Option Int :=
 if gx7 < 0 then qb (i64 ((IntKind.wrap .i64 x8)+1)) fun x11=>go1 x11 gx6 else go1 gx5 (IntKind.wrap .i64 x8)
def qbE (go1:Int→Int→Option Int) (a0:(List TVersion)) (a1:Int) (gx5:Int) (gx6:Int):Option Int :=
 if gx5 < gx6 then qb (i64 (gx5+gx6)) fun x7=>qb (qau .u64 (IntKind.wrap .u64 x7) 1) fun x8=>qb (idx a0 (IntKind.wrap .i64 x8)) fun x9=>if x9.At≤a1 then qeI x8 go1 gx6 gx5 (-1) else qeI x8 go1 gx6 gx5 1 else qf8 a0 a1 gx5
def wK (a0:(List TVersion)) (a1:Int):Nat→Int→Int→Option Int
 | 0,_,_=>none
 | n+1,gx5,gx6=>qbE (wK a0 a1 n) a0 a1 gx5 gx6
def M95 (a0:(List TVersion)) (a1:Int):Option Int :=
 wK a0 a1 big 0 (a0.length:Int)
def qgc (gl3:(List TVersion)):Option ((List TVersion)×Int) :=
 some (gl3,0)
def qbK (go1:(List TVersion)→Int→Option ((List TVersion)×Int)) (a0:(List TVersion)) (gl1:(List (Int×Int))) (gl5:(List TVersion)) (gx6:Int):Option ((List TVersion)×Int) :=
 if gx6 < (a0.length:Int) then qb (idx a0 gx6) fun x6=>if 0 < (xP gl1 gx6 0) then qb (app gl5 ([x6])) fun l11=>qb (i64 (gx6+1)) fun x12=>go1 l11 x12 else qb (i64 (gx6+1)) fun x13=>go1 gl5 x13 else qgc gl5
def wQ (a0:(List TVersion)) (gl1:(List (Int×Int))):Nat→(List TVersion)→Int→Option ((List TVersion)×Int)
 | 0,_,_=>none
 | n+1,gl5,gx6=>qbK (wQ a0 gl1 n) a0 gl1 gl5 gx6
def qeM (a0:(List TVersion)) (gl1:(List (Int×Int))):Option ((List TVersion)×Int) :=
 wQ a0 gl1 big [] 0
def qbJ (go2:Int→(List (Int×Int))→Option ((List TVersion)×Int)) (l19:(List Int)) (a0:(List TVersion)) (gx7:Int) (gl8:(List (Int×Int))):Option ((List TVersion)×Int) :=
 if gx7 < (l19.length:Int) then qb (idx l19 gx7) fun x21=>qb (M95 a0 x21) fun x22=>qb (i64 ((xP gl8 x22 0)+1)) fun x24=>qb (some (qU gl8 x22 x24)) fun l25=>qb (i64 (gx7+1)) fun x26=>go2 x26 (qU gl8 x22 x24) else qeM a0 gl8
def wP (l19:(List Int)) (a0:(List TVersion)):Nat→Int→(List (Int×Int))→Option ((List TVersion)×Int)
 | 0,_,_=>none
 | n+1,gx7,gl8=>qbJ (wP l19 a0 n) l19 a0 gx7 gl8
def M77 (a0:(List TVersion)) (a1:(List Int)) (a2:Int):Option ((List TVersion)×Int) :=
 qb (M94 a0 a1 a2) fun x1=>if x1≠0 then some ([],x1) else qb (M57 a1) fun l14=>qb (app l14 ([a2])) fun l19=>wP l19 a0 big 0 []
def qeU (gl10:(List (List TVersion))) (gx9:Int) (go1:(List Int)→Int→(List (List TVersion))→Option (List TStore)) (gl26:(List Int)) (gl28:(List TVersion)):Option (List TStore) :=
 qb (za 20 gl10 gx9) fun x36=>qb (upd gl10 gx9 gl28) fun l37=>qb (i64 (gx9+1)) fun x40=>go1 gl26 x40 l37
def qeQ (gl10:(List (List TVersion))) (gx9:Int) (go1:(List Int)→Int→(List (List TVersion))→Option (List TStore)) (gl31:(List TVersion)) (gl32:(List Int)):Option (List TStore) :=
 qeU gl10 gx9 go1 gl32 gl31
def qbX (go2:(List Int)→Int→Option (List TStore)) (gl30:(List Int)) (gl10:(List (List TVersion))) (gx9:Int) (go1:(List Int)→Int→(List (List TVersion))→Option (List TStore)) (gl31:(List TVersion)) (gl33:(List Int)) (gx34:Int):Option (List TStore) :=
 if gx34 < (gl30.length:Int) then qb (idx gl33 gx34) fun x50=>qb (i64 (x50 - 1)) fun x51=>qb (idx gl33 gx34) fun x52=>qb (upd gl33 gx34 x51) fun l53=>qb (i64 (gx34+1)) fun x54=>go2 l53 x54 else qeQ gl10 gx9 go1 gl31 gl33
def w5 (gl30:(List Int)) (gl10:(List (List TVersion))) (gx9:Int) (go1:(List Int)→Int→(List (List TVersion))→Option (List TStore)) (gl31:(List TVersion)):Nat→(List Int)→Int→Option (List TStore)
 | 0,_,_=>none
 | n+1,gl33,gx34=>qbX (w5 gl30 gl10 gx9 go1 gl31 n) gl30 gl10 gx9 go1 gl31 gl33 gx34
def qeR (gl30:(List Int)) (gl10:(List (List TVersion))) (gx9:Int) (go1:(List Int)→Int→(List (List TVersion))→Option (List TStore)) (gl31:(List TVersion)):Option (List TStore) :=
 w5 gl30 gl10 gx9 go1 gl31 big gl30 0
def qbW (go3:(List TVersion)→Int→Option (List TStore)) (l45:(List TVersion)) (gl30:(List Int)) (gl10:(List (List TVersion))) (gx9:Int) (go1:(List Int)→Int→(List (List TVersion))→Option (List TStore)) (gl35:(List TVersion)) (gx36:Int):Option (List TStore) :=
 if gx36 < (l45.length:Int) then qb (idx gl35 gx36) fun x56=>qb (i64 (x56.At - 1)) fun x57=>qb (idx gl35 gx36) fun x58=>qb (upd gl35 gx36 (⟨x57,x58.Text⟩:TVersion)) fun l59=>qb (i64 (gx36+1)) fun x60=>go3 l59 x60 else qeR gl30 gl10 gx9 go1 gl35
def w4 (l45:(List TVersion)) (gl30:(List Int)) (gl10:(List (List TVersion))) (gx9:Int) (go1:(List Int)→Int→(List (List TVersion))→Option (List TStore)):Nat→(List TVersion)→Int→Option (List TStore)
 | 0,_,_=>none
 | n+1,gl35,gx36=>qbW (w4 l45 gl30 gl10 gx9 go1 n) l45 gl30 gl10 gx9 go1 gl35 gx36
def qeS (th1:TStore) (gl29:(List TVersion)) (gl10:(List (List TVersion))) (gx9:Int) (go1:(List Int)→Int→(List (List TVersion))→Option (List TStore)) (gl30:(List Int)):Option (List TStore) :=
 qb (i64 (th1.now_+1)) fun x44=>qI (M77 gl29 gl30 x44) fun l45 x47=>w4 l45 gl30 gl10 gx9 go1 big l45 0
def qbV (go4:(List Int)→Int→Option (List TStore)) (gl8:(List Int)) (th1:TStore) (gl29:(List TVersion)) (gl10:(List (List TVersion))) (gx9:Int) (go1:(List Int)→Int→(List (List TVersion))→Option (List TStore)) (gl37:(List Int)) (gx38:Int):Option (List TStore) :=
 if gx38 < (gl8.length:Int) then qb (idx gl37 gx38) fun x62=>qb (i64 (x62+1)) fun x63=>qb (idx gl37 gx38) fun x64=>qb (upd gl37 gx38 x63) fun l65=>qb (i64 (gx38+1)) fun x66=>go4 l65 x66 else qeS th1 gl29 gl10 gx9 go1 gl37
def wZ (gl8:(List Int)) (th1:TStore) (gl29:(List TVersion)) (gl10:(List (List TVersion))) (gx9:Int) (go1:(List Int)→Int→(List (List TVersion))→Option (List TStore)):Nat→(List Int)→Int→Option (List TStore)
 | 0,_,_=>none
 | n+1,gl37,gx38=>qbV (wZ gl8 th1 gl29 gl10 gx9 go1 n) gl8 th1 gl29 gl10 gx9 go1 gl37 gx38
def qeT (gl8:(List Int)) (th1:TStore) (gl10:(List (List TVersion))) (gx9:Int) (go1:(List Int)→Int→(List (List TVersion))→Option (List TStore)) (gl29:(List TVersion)):Option (List TStore) :=
 wZ gl8 th1 gl29 gl10 gx9 go1 big gl8 0
def qbU (go5:(List TVersion)→Int→Option (List TStore)) (l41:(List TVersion)) (gl8:(List Int)) (th1:TStore) (gl10:(List (List TVersion))) (gx9:Int) (go1:(List Int)→Int→(List (List TVersion))→Option (List TStore)) (gl39:(List TVersion)) (gx40:Int):Option (List TStore) :=
 if gx40 < (l41.length:Int) then qb (idx gl39 gx40) fun x68=>qb (i64 (x68.At+1)) fun x69=>qb (idx gl39 gx40) fun x70=>qb (upd gl39 gx40 (⟨x69,x70.Text⟩:TVersion)) fun l71=>qb (i64 (gx40+1)) fun x72=>go5 l71 x72 else qeT gl8 th1 gl10 gx9 go1 gl39
def vt (l41:(List TVersion)) (gl8:(List Int)) (th1:TStore) (gl10:(List (List TVersion))) (gx9:Int) (go1:(List Int)→Int→(List (List TVersion))→Option (List TStore)):Nat→(List TVersion)→Int→Option (List TStore)
 | 0,_,_=>none
 | n+1,gl39,gx40=>qbU (vt l41 gl8 th1 gl10 gx9 go1 n) l41 gl8 th1 gl10 gx9 go1 gl39 gx40
def qbY (go1:(List Int)→Int→(List (List TVersion))→Option (List TStore)) (th1:TStore) (A70:(List TStore)) (a0:Int) (gl2:(List Int)) (gl7:(List Int)) (gl8:(List Int)) (gx9:Int) (gl10:(List (List TVersion))):Option (List TStore) :=
 if gx9 < 20 then qb (za 20 th1.items_ gx9) fun x7=>if 1 < (x7.length:Int) then qb (M76 x7) fun l41=>vt l41 gl8 th1 gl10 gx9 go1 big l41 0 else qb (i64 (gx9+1)) fun x73=>go1 gl8 x73 gl10 else qb (upd A70 a0 (⟨th1.logs_,th1.half_,th1.gen_,th1.down_,th1.now_,gl10,gl2,gl7⟩:TStore)) fun l75=>some l75
def w7 (th1:TStore) (A70:(List TStore)) (a0:Int) (gl2:(List Int)) (gl7:(List Int)):Nat→(List Int)→Int→(List (List TVersion))→Option (List TStore)
 | 0,_,_,_=>none
 | n+1,gl8,gx9,gl10=>qbY (w7 th1 A70 a0 gl2 gl7 n) th1 A70 a0 gl2 gl7 gl8 gx9 gl10
def qaW (th1:TStore) (A70:(List TStore)) (a0:Int) (gl2:(List Int)) (gl4:(List Int)) (gl7:(List Int)):Option (List TStore) :=
 w7 th1 A70 a0 gl2 gl7 big gl4 0 th1.items_
def qb6 (th1:TStore) (A70:(List TStore)) (a0:Int) (gl2:(List Int)) (gl4:(List Int)) (gl42:(List Int)) (gx43:Int):Option (List TStore) :=
 qb (cut gl42 gx43 gl42.length) fun l77=>qb (clr gl42 gx43 (-1)) fun l78=>qb (cut l78 0 gx43) fun l79=>qaW th1 A70 a0 gl2 gl4 l79
def qb5 (gx46:Int) (go6:(List Int)→Int→Int→Option (List TStore)) (gl44:(List Int)) (gx45:Int) (x83:Int) (gb47:Bool):Option (List TStore) :=
 if gb47=true then qb (i64 (gx46+1)) fun x88=>go6 gl44 gx45 x88 else qb (idx gl44 gx45) fun x84=>qb (upd gl44 gx45 x83) fun l85=>qb (i64 (gx45+1)) fun x86=>qb (i64 (gx46+1)) fun x87=>go6 l85 x86 x87
def qbT (go6:(List Int)→Int→Int→Option (List TStore)) (A88:(List Ttx)) (gx5:Int) (th1:TStore) (A70:(List TStore)) (a0:Int) (gl2:(List Int)) (gl4:(List Int)) (gl44:(List Int)) (gx45:Int) (gx46:Int):Option (List TStore) :=
 if gx46 < (gl44.length:Int) then qb (idx gl44 gx46) fun x83=>qb (idx A88 x83) fun th89=>qb5 gx46 go6 gl44 gx45 x83 (decide (th89.at_≤gx5)) else qb6 th1 A70 a0 gl2 gl4 gl44 gx45
def wY (A88:(List Ttx)) (gx5:Int) (th1:TStore) (A70:(List TStore)) (a0:Int) (gl2:(List Int)) (gl4:(List Int)):Nat→(List Int)→Int→Int→Option (List TStore)
 | 0,_,_,_=>none
 | n+1,gl44,gx45,gx46=>qbT (wY A88 gx5 th1 A70 a0 gl2 gl4 n) A88 gx5 th1 A70 a0 gl2 gl4 gl44 gx45 gx46
def qcX (th1:TStore) (A70:(List TStore)) (a0:Int) (gl2:(List Int)) (gl4:(List Int)) (A88:(List Ttx)) (gx5:Int) (gx41:Int):Option (List TStore) :=
 if gx41=(-1) then qaW th1 A70 a0 gl2 gl4 th1.over_ else qb (i64 (gx41+1)) fun x81=>wY A88 gx5 th1 A70 a0 gl2 gl4 big th1.over_ gx41 x81
def qb4 (th1:TStore) (A70:(List TStore)) (a0:Int) (gl2:(List Int)) (gl4:(List Int)) (A88:(List Ttx)) (gx5:Int):Option (List TStore) :=
 qcX th1 A70 a0 gl2 gl4 A88 gx5 (-1)
def qb3 (th1:TStore) (A70:(List TStore)) (a0:Int) (gl2:(List Int)) (gl4:(List Int)) (A88:(List Ttx)) (gx5:Int) (gx48:Int) (go7:Int→Option (List TStore)) (gb49:Bool):Option (List TStore) :=
 if gb49=true then qcX th1 A70 a0 gl2 gl4 A88 gx5 gx48 else qb (i64 (gx48+1)) fun x92=>go7 x92
def qbS (go7:Int→Option (List TStore)) (th1:TStore) (A88:(List Ttx)) (A70:(List TStore)) (a0:Int) (gl2:(List Int)) (gl4:(List Int)) (gx5:Int) (gx48:Int):Option (List TStore) :=
 if gx48 < (th1.over_.length:Int) then qb (idx th1.over_ gx48) fun x91=>qb (idx A88 x91) fun th93=>qb3 th1 A70 a0 gl2 gl4 A88 gx5 gx48 go7 (decide (th93.at_≤gx5)) else qb4 th1 A70 a0 gl2 gl4 A88 gx5
def wX (th1:TStore) (A88:(List Ttx)) (A70:(List TStore)) (a0:Int) (gl2:(List Int)) (gl4:(List Int)) (gx5:Int):Nat→Int→Option (List TStore)
 | 0,_=>none
 | n+1,gx48=>qbS (wX th1 A88 A70 a0 gl2 gl4 gx5 n) th1 A88 A70 a0 gl2 gl4 gx5 gx48
def qcY (th1:TStore) (A88:(List Ttx)) (A70:(List TStore)) (a0:Int) (gl2:(List Int)) (gl4:(List Int)) (gx5:Int):Option (List TStore) :=
 wX th1 A88 A70 a0 gl2 gl4 gx5 big 0
def qbR (go8:(List Int)→Int→Int→Option (List TStore)) (gl2:(List Int)) (A88:(List Ttx)) (th1:TStore) (A70:(List TStore)) (a0:Int) (gl51:(List Int)) (gx52:Int) (gx53:Int):Option (List TStore) :=
 if gx52 < (gl2.length:Int) then qb (idx gl2 gx52) fun x95=>qb (idx A88 x95) fun th96=>qb (app gl51 ([th96.from_])) fun l103=>qb (i64 (gx52+1)) fun x104=>go8 l103 x104 (min gx53 th96.from_) else qcY th1 A88 A70 a0 gl2 gl51 gx53
def wW (gl2:(List Int)) (A88:(List Ttx)) (th1:TStore) (A70:(List TStore)) (a0:Int):Nat→(List Int)→Int→Int→Option (List TStore)
 | 0,_,_,_=>none
 | n+1,gl51,gx52,gx53=>qbR (wW gl2 A88 th1 A70 a0 n) gl2 A88 th1 A70 a0 gl51 gx52 gx53
def qaX (A88:(List Ttx)) (th1:TStore) (A70:(List TStore)) (a0:Int) (gl2:(List Int)):Option (List TStore) :=
 wW gl2 A88 th1 A70 a0 big [] 0 th1.now_
def qb2 (A88:(List Ttx)) (th1:TStore) (A70:(List TStore)) (a0:Int) (gl55:(List Int)) (gx56:Int):Option (List TStore) :=
 qb (cut gl55 gx56 gl55.length) fun l106=>qb (clr gl55 gx56 (-1)) fun l107=>qb (cut l107 0 gx56) fun l108=>qaX A88 th1 A70 a0 l108
def qb1 (x112:Int) (a1:Int) (gl57:(List Int)) (gx58:Int) (gx59:Int) (go9:(List Int)→Int→Int→Option (List TStore)):Option (List TStore) :=
 if (!(decide (x112=a1)))=true then qb (idx gl57 gx58) fun x114=>qb (upd gl57 gx58 x112) fun l115=>qb (i64 (gx58+1)) fun x116=>qb (i64 (gx59+1)) fun x117=>go9 l115 x116 x117 else qb (i64 (gx59+1)) fun x118=>go9 gl57 gx58 x118
def qbQ (go9:(List Int)→Int→Int→Option (List TStore)) (A88:(List Ttx)) (a1:Int) (th1:TStore) (A70:(List TStore)) (a0:Int) (gl57:(List Int)) (gx58:Int) (gx59:Int):Option (List TStore) :=
 if gx59 < (gl57.length:Int) then qb (idx gl57 gx59) fun x112=>qb (idx A88 x112) fun th119=>qb (idx A88 a1) fun th120=>qb1 x112 a1 gl57 gx58 gx59 go9 else qb2 A88 th1 A70 a0 gl57 gx58
def wV (A88:(List Ttx)) (a1:Int) (th1:TStore) (A70:(List TStore)) (a0:Int):Nat→(List Int)→Int→Int→Option (List TStore)
 | 0,_,_,_=>none
 | n+1,gl57,gx58,gx59=>qbQ (wV A88 a1 th1 A70 a0 n) A88 a1 th1 A70 a0 gl57 gx58 gx59
def wa (A88:(List Ttx)) (th1:TStore) (A70:(List TStore)) (a0:Int) (a1:Int) (gx54:Int):Option (List TStore) :=
 if gx54=(-1) then qaX A88 th1 A70 a0 th1.active_ else qb (i64 (gx54+1)) fun x110=>wV A88 a1 th1 A70 a0 big th1.active_ gx54 x110
def qb0 (A88:(List Ttx)) (th1:TStore) (A70:(List TStore)) (a0:Int) (a1:Int):Option (List TStore) :=
 wa A88 th1 A70 a0 a1 (-1)
def qbZ (x122:Int) (a1:Int) (A88:(List Ttx)) (th1:TStore) (A70:(List TStore)) (a0:Int) (gx60:Int) (go10:Int→Option (List TStore)):Option (List TStore) :=
 if (decide (x122=a1))=true then wa A88 th1 A70 a0 a1 gx60 else qb (i64 (gx60+1)) fun x123=>go10 x123
def w6 (go10:Int→Option (List TStore)) (th1:TStore) (A88:(List Ttx)) (a1:Int) (A70:(List TStore)) (a0:Int) (gx60:Int):Option (List TStore) :=
 if gx60 < (th1.active_.length:Int) then qb (idx th1.active_ gx60) fun x122=>qb (idx A88 x122) fun th124=>qb (idx A88 a1) fun th125=>qbZ x122 a1 A88 th1 A70 a0 gx60 go10 else qb0 A88 th1 A70 a0 a1
def jx (th1:TStore) (A88:(List Ttx)) (a1:Int) (A70:(List TStore)) (a0:Int):Nat→Int→Option (List TStore)
 | 0,_=>none
 | n+1,gx60=>w6 (jx th1 A88 a1 A70 a0 n) th1 A88 a1 A70 a0 gx60
def M33 (a0:Int) (a1:Int) (A70:(List TStore)) (A88:(List Ttx)):Option (List TStore) :=
 qb (idx A70 a0) fun th1=>qb (qQ 2 th1.logs_) fun _=>qb (qQ 20 th1.items_) fun _=>jx th1 A88 a1 A70 a0 big 0
def M48 (a0:(List UInt8)):Option ((List UInt8)×Int) :=
 if 4096 < (a0.length:Int) then some ([],2) else qb (M47 (IntKind.wrap .u64 (a0.length:Int))) fun s2=>qb (y8 s2 a0) fun s4=>some (s4,0)
def M26 (a0:Int) (a1:(List UInt8)):Option (List UInt8) :=
 qI (M48 a1) fun s1 x2=>qb (M24 a0) fun s4=>qb (y8 s4 s1) fun s6=>some s6
def qeO (gl2:(List (List UInt8))):Option (List (List UInt8)) :=
 some gl2
def v7 (go1:(List UInt8)→(List (List UInt8))→(List UInt8)→Option (List (List UInt8))) (a0:Int) (a1:Int) (gs3:(List UInt8)) (gl5:(List (List UInt8))) (gs6:(List UInt8)):Option (List (List UInt8)) :=
 if gs3≠[] then qb (M69 gs6 a0 a1) fun s8=>qb (i64 (64 - (s8.length:Int))) fun x10=>qb (cut gs3 0 (min x10 (gs3.length:Int))) fun s11=>qb (y8 s8 s11) fun s12=>qb (app gl5 ([s12])) fun l15=>qb (cut gs3 (min x10 (gs3.length:Int)) gs3.length) fun s16=>go1 s16 l15 ([2]) else qeO gl5
def km (a0:Int) (a1:Int):Nat→(List UInt8)→(List (List UInt8))→(List UInt8)→Option (List (List UInt8))
 | 0,_,_,_=>none
 | n+1,gs3,gl5,gs6=>v7 (km a0 a1 n) a0 a1 gs3 gl5 gs6
def M43 (a0:Int) (a1:Int) (a2:(List UInt8)):Option (List (List UInt8)) :=
 qI (M48 a2) fun s1 x2=>qI (M72 s1) fun s4 x5=>km a0 a1 big s4 [] ([1])
def qeX (A100:(List TLog)) (a0:Int) (l5:(List (List UInt8))) (gl1:(List TDisk)):Option ((List TDisk)×(List TLog)×Int) :=
 qb (idx A100 a0) fun th11=>qb (i64 (th11.at_+(l5.length:Int))) fun x12=>qb (i64 (th11.seq_+1)) fun x13=>qb (upd A100 a0 (⟨th11.d_,th11.from_,th11.size_,th11.epoch_,x12,x13,th11.fell_⟩:TLog)) fun l14=>some (gl1,l14,0)
def qb9 (go1:Int→(List TDisk)→Option ((List TDisk)×(List TLog)×Int)) (l5:(List (List UInt8))) (A100:(List TLog)) (a0:Int) (gx3:Int) (gl4:(List TDisk)):Option ((List TDisk)×(List TLog)×Int) :=
 if gx3 < (l5.length:Int) then qb (idx l5 gx3) fun x17=>qb (idx A100 a0) fun th18=>qb (i64 (th18.from_+th18.at_)) fun x44=>qb (i64 (x44+gx3)) fun x45=>qI (M44 th18.d_ x45 x17 gl4) fun l46 x47=>if x47≠0 then qI (M45 a0 x47 A100) fun l52 x53=>some (l46,l52,x53) else qb (i64 (gx3+1)) fun x56=>go1 x56 l46 else qeX A100 a0 l5 gl4
def vu (l5:(List (List UInt8))) (A100:(List TLog)) (a0:Int):Nat→Int→(List TDisk)→Option ((List TDisk)×(List TLog)×Int)
 | 0,_,_=>none
 | n+1,gx3,gl4=>qb9 (vu l5 A100 a0 n) l5 A100 a0 gx3 gl4
def M27 (a0:Int) (a1:(List UInt8)) (A60:(List TDisk)) (A100:(List TLog)):Option ((List TDisk)×(List TLog)×Int) :=
 qb (idx A100 a0) fun th1=>if th1.fell_=true then some (A60,A100,10) else if 300 < (a1.length:Int) then some (A60,A100,2) else qb (M43 th1.epoch_ th1.seq_ a1) fun l5=>qb (i64 (th1.at_+(l5.length:Int))) fun x9=>if th1.size_ < x9 then some (A60,A100,8) else vu l5 A100 a0 big 0 A60
def M25 (a0:Int) (a1:Int) (A70:(List TStore)):Option ((List TStore)×Int) :=
 qb (idx A70 a0) fun th1=>qb (qQ 2 th1.logs_) fun _=>if th1.down_=true then qb (upd A70 a0 (⟨th1.logs_,th1.half_,th1.gen_,true,th1.now_,th1.items_,th1.active_,th1.over_⟩:TStore)) fun l5=>some (l5,a1) else qb (upd A70 a0 (⟨th1.logs_,th1.half_,th1.gen_,(decide (a1≠0)),th1.now_,th1.items_,th1.active_,th1.over_⟩:TStore)) fun l7=>some (l7,a1)
def M28 (a0:Int) (A60:(List TDisk)) (A100:(List TLog)):Option ((List TDisk)×(List TLog)×Int) :=
 qb (idx A100 a0) fun th1=>if th1.fell_=true then some (A60,A100,10) else qI (M46 th1.d_ A60) fun l3 x4=>qI (M45 a0 x4 A100) fun l7 x8=>some (l3,l7,x8)
def qeP (A70:(List TStore)) (a0:Int) (A60:(List TDisk)) (A100:(List TLog)) (gs1:(List UInt8)):Option ((List TDisk)×(List TStore)×(List TLog)×Int) :=
 qb (idx A70 a0) fun th8=>qb (qQ 2 th8.logs_) fun _=>qb (za 2 th8.logs_ th8.half_) fun x10=>zD (M27 x10 gs1 A60 A100) fun l11 l12 x13=>if x13=0 then zD (M28 x10 l11 l12) fun l18 l19 x20=>qI (M25 a0 x20 A70) fun l24 x25=>qb (idx l24 a0) fun th28=>some (l18,l24,l19,x25) else if x13=2 then some (l11,A70,l12,x13) else if x13=8 then some (l11,A70,l12,x13) else qI (M25 a0 x13 A70) fun l31 x32=>qb (idx l31 a0) fun th35=>some (l11,l31,l12,x32)
def qbP (go1:(List UInt8)→Int→Option ((List TDisk)×(List TStore)×(List TLog)×Int)) (l7:(List Int)) (A88:(List Ttx)) (a1:Int) (A70:(List TStore)) (a0:Int) (A60:(List TDisk)) (A100:(List TLog)) (gs2:(List UInt8)) (gx3:Int):Option ((List TDisk)×(List TStore)×(List TLog)×Int) :=
 if gx3 < (l7.length:Int) then qb (idx l7 gx3) fun x37=>qb (idx A88 a1) fun th38=>qb (za 20 th38.texts_ x37) fun x39=>qb (M26 x37 x39) fun s40=>qb (y8 gs2 s40) fun s42=>qb (i64 (gx3+1)) fun x43=>go1 s42 x43 else qeP A70 a0 A60 A100 gs2
def wU (l7:(List Int)) (A88:(List Ttx)) (a1:Int) (A70:(List TStore)) (a0:Int) (A60:(List TDisk)) (A100:(List TLog)):Nat→(List UInt8)→Int→Option ((List TDisk)×(List TStore)×(List TLog)×Int)
 | 0,_,_=>none
 | n+1,gs2,gx3=>qbP (wU l7 A88 a1 A70 a0 A60 A100 n) l7 A88 a1 A70 a0 A60 A100 gs2 gx3
def M34 (a0:Int) (a1:Int) (A60:(List TDisk)) (A70:(List TStore)) (A88:(List Ttx)) (A100:(List TLog)):Option ((List TDisk)×(List TStore)×(List TLog)×Int) :=
 qb (idx A70 a0) fun th1=>qb (idx A88 a1) fun th2=>if (th2.writes_.length:Int)=0 then some (A60,A70,A100,0) else qb (M57 th2.writes_) fun l4=>qb (qcn l4) fun l7=>wU l7 A88 a1 A70 a0 A60 A100 big ([67]) 0
def qe0 (a0:Int) (x2:Int) (gl3:(List Ttx)) (l15:(List TDisk)) (l17:(List TLog)) (gl5:(List TStore)):Option ((List TDisk)×(List TStore)×(List Ttx)×(List TLog)×Int) :=
 qb (idx gl5 a0) fun th30=>qb (qQ 2 th30.logs_) fun _=>qb (qQ 20 th30.items_) fun _=>qb (app th30.over_ ([x2])) fun l35=>qb (upd gl5 a0 (⟨th30.logs_,th30.half_,th30.gen_,th30.down_,th30.now_,th30.items_,th30.active_,l35⟩:TStore)) fun l37=>qb (M33 a0 x2 l37 gl3) fun l38=>qb (idx l38 a0) fun th41=>some (l15,l38,gl3,l17,0)
def qch (go1:Int→(List TStore)→Option ((List TDisk)×(List TStore)×(List Ttx)×(List TLog)×Int)) (th42:Ttx) (a0:Int) (x2:Int) (gl3:(List Ttx)) (l15:(List TDisk)) (l17:(List TLog)) (gx7:Int) (gl8:(List TStore)):Option ((List TDisk)×(List TStore)×(List Ttx)×(List TLog)×Int) :=
 if gx7 < (th42.writes_.length:Int) then qb (idx th42.writes_ gx7) fun x44=>qb (idx gl8 a0) fun th45=>qb (za 20 th45.items_ x44) fun x77=>qb (qQ 2 th45.logs_) fun _=>qb (za 20 th42.texts_ x44) fun x79=>qb (app x77 ([(⟨th45.now_,x79⟩:TVersion)])) fun l82=>qb (za 20 th45.items_ x44) fun x85=>qb (upd th45.items_ x44 l82) fun l86=>qb (i64 (gx7+1)) fun x88=>qb (upd gl8 a0 (⟨th45.logs_,th45.half_,th45.gen_,th45.down_,th45.now_,l86,th45.active_,th45.over_⟩:TStore)) fun l90=>go1 x88 l90 else qe0 a0 x2 gl3 l15 l17 gl8
def yh (th42:Ttx) (a0:Int) (x2:Int) (gl3:(List Ttx)) (l15:(List TDisk)) (l17:(List TLog)):Nat→Int→(List TStore)→Option ((List TDisk)×(List TStore)×(List Ttx)×(List TLog)×Int)
 | 0,_,_=>none
 | n+1,gx7,gl8=>qch (yh th42 a0 x2 gl3 l15 l17 n) th42 a0 x2 gl3 l15 l17 gx7 gl8
def qe1 (x2:Int) (a0:Int) (l15:(List TDisk)) (l17:(List TLog)) (l28:(List TStore)) (gl3:(List Ttx)):Option ((List TDisk)×(List TStore)×(List Ttx)×(List TLog)×Int) :=
 qb (idx gl3 x2) fun th42=>yh th42 a0 x2 gl3 l15 l17 big 0 l28
def qcg (go2:Int→(List Ttx)→Option ((List TDisk)×(List TStore)×(List Ttx)×(List TLog)×Int)) (l9:(List Int)) (x2:Int) (a0:Int) (l15:(List TDisk)) (l17:(List TLog)) (l28:(List TStore)) (gx10:Int) (gl11:(List Ttx)):Option ((List TDisk)×(List TStore)×(List Ttx)×(List TLog)×Int) :=
 if gx10 < (l9.length:Int) then qb (idx l9 gx10) fun x92=>qb (idx gl11 x92) fun th93=>qb (qQ 20 th93.texts_) fun _=>qb (upd gl11 x92 (⟨th93.id_,th93.from_,th93.at_,th93.reads_,th93.writes_,th93.texts_,th93.in_,true⟩:Ttx)) fun l96=>qb (idx l96 x2) fun th97=>qb (qQ 20 th97.texts_) fun _=>qb (i64 (gx10+1)) fun x99=>qb (upd l96 x2 (⟨th97.id_,th97.from_,th97.at_,th97.reads_,th97.writes_,th97.texts_,true,th97.out_⟩:Ttx)) fun l101=>go2 x99 l101 else qe1 x2 a0 l15 l17 l28 gl11
def yg (l9:(List Int)) (x2:Int) (a0:Int) (l15:(List TDisk)) (l17:(List TLog)) (l28:(List TStore)):Nat→Int→(List Ttx)→Option ((List TDisk)×(List TStore)×(List Ttx)×(List TLog)×Int)
 | 0,_,_=>none
 | n+1,gx10,gl11=>qcg (yg l9 x2 a0 l15 l17 l28 n) l9 x2 a0 l15 l17 l28 gx10 gl11
def qe2 (l9:(List Int)) (x2:Int) (a0:Int) (l15:(List TDisk)) (l17:(List TLog)) (l28:(List TStore)) (gl1:(List Ttx)):Option ((List TDisk)×(List TStore)×(List Ttx)×(List TLog)×Int) :=
 yg l9 x2 a0 l15 l17 l28 big 0 gl1
def qcf (go3:Int→(List Ttx)→Option ((List TDisk)×(List TStore)×(List Ttx)×(List TLog)×Int)) (l7:(List Int)) (x2:Int) (l9:(List Int)) (a0:Int) (l15:(List TDisk)) (l17:(List TLog)) (l28:(List TStore)) (gx13:Int) (gl14:(List Ttx)):Option ((List TDisk)×(List TStore)×(List Ttx)×(List TLog)×Int) :=
 if gx13 < (l7.length:Int) then qb (idx l7 gx13) fun x105=>qb (idx gl14 x105) fun th106=>qb (qQ 20 th106.texts_) fun _=>qb (upd gl14 x105 (⟨th106.id_,th106.from_,th106.at_,th106.reads_,th106.writes_,th106.texts_,true,th106.out_⟩:Ttx)) fun l109=>qb (idx l109 x2) fun th110=>qb (qQ 20 th110.texts_) fun _=>qb (i64 (gx13+1)) fun x112=>qb (upd l109 x2 (⟨th110.id_,th110.from_,th110.at_,th110.reads_,th110.writes_,th110.texts_,th110.in_,true⟩:Ttx)) fun l114=>go3 x112 l114 else qe2 l9 x2 a0 l15 l17 l28 gl14
def yf (l7:(List Int)) (x2:Int) (l9:(List Int)) (a0:Int) (l15:(List TDisk)) (l17:(List TLog)) (l28:(List TStore)):Nat→Int→(List Ttx)→Option ((List TDisk)×(List TStore)×(List Ttx)×(List TLog)×Int)
 | 0,_,_=>none
 | n+1,gx13,gl14=>qcf (yf l7 x2 l9 a0 l15 l17 l28 n) l7 x2 l9 a0 l15 l17 l28 gx13 gl14
def M16 (a0:Int) (a1:Int) (A60:(List TDisk)) (A70:(List TStore)) (A88:(List Ttx)) (A100:(List TLog)):Option ((List TDisk)×(List TStore)×(List Ttx)×(List TLog)×Int) :=
 qb (idx A70 a0) fun th1=>qI (M30 a0 a1 0 A70 A88) fun x2 x3=>qb (idx A70 a0) fun th5=>if x3≠0 then some (A60,A70,A88,A100,x3) else zD (M32 a0 x2 A70 A88) fun l7 l9 b11=>qb (idx A70 a0) fun th13=>if b11=true then wI (M34 a0 x2 A60 A70 A88 A100) fun l15 l16 l17 x18=>qb (idx l16 a0) fun th23=>if x18≠0 then some (l15,l16,A88,l17,x18) else qb (qQ 2 th23.logs_) fun _=>qb (i64 (th23.now_+1)) fun x26=>qb (upd l16 a0 (⟨th23.logs_,th23.half_,th23.gen_,th23.down_,x26,th23.items_,th23.active_,th23.over_⟩:TStore)) fun l28=>qb (idx A88 x2) fun th29=>qb (upd A88 x2 (⟨th29.id_,th29.from_,x26,th29.reads_,th29.writes_,th29.texts_,th29.in_,th29.out_⟩:Ttx)) fun l103=>yf l7 x2 l9 a0 l15 l17 l28 big 0 l103 else qb (M33 a0 x2 A70 A88) fun l115=>qb (idx l115 a0) fun th118=>some (A60,l115,A88,A100,12)
def qje (a0:Int) (gl1:(List TDisk)):Option (List TDisk) :=
 qb (idx gl1 a0) fun th1=>qb (upd gl1 a0 (⟨th1.safe_,(cpy th1.seen_ th1.safe_),[],(-1)⟩:TDisk)) fun l4=>some l4
def qf6 (go1:Int→(List (List UInt8))→Option (List TDisk)) (th6:TDisk) (a1:(List Bool)) (A60:(List TDisk)) (a0:Int) (gx3:Int) (gl4:(List (List UInt8))):Option (List TDisk) :=
 if gx3 < (th6.late_.length:Int) then qb (idx th6.late_ gx3) fun x8=>if gx3 < (a1.length:Int) then qb (idx a1 gx3) fun x11=>if x11=true then qb (idx gl4 x8.at_) fun x18=>qb (upd gl4 x8.at_ x8.text_) fun l19=>qb (i64 (gx3+1)) fun x20=>go1 x20 l19 else qb (i64 (gx3+1)) fun x21=>go1 x21 gl4 else qb (i64 (gx3+1)) fun x22=>go1 x22 gl4 else qb (upd A60 a0 (⟨gl4,th6.seen_,th6.late_,th6.left_⟩:TDisk)) fun l23=>qje a0 l23
def qf7 (th6:TDisk) (a1:(List Bool)) (A60:(List TDisk)) (a0:Int):Nat→Int→(List (List UInt8))→Option (List TDisk)
 | 0,_,_=>none
 | n+1,gx3,gl4=>qf6 (qf7 th6 a1 A60 a0 n) th6 a1 A60 a0 gx3 gl4
def M9 (a0:Int) (a1:(List Bool)) (A60:(List TDisk)):Option (List TDisk) :=
 qb (idx A60 a0) fun th6=>qf7 th6 a1 A60 a0 big 0 th6.safe_
def qgq (gl1:(List (List UInt8))):Option (List (List UInt8)) :=
 qb (qQ 20 gl1) fun _=>qb (qQ 20 (List.replicate 20 ([]:(List UInt8)))) fun _=>qb (qQ 20 gl1) fun _=>qb (qQ 20 gl1) fun _=>some gl1
def qcj (go1:Int→(List (List UInt8))→Option (List (List UInt8))) (th1:TStore) (gx2:Int) (gl3:(List (List UInt8))):Option (List (List UInt8)) :=
 if gx2 < 20 then qb (za 20 th1.items_ gx2) fun x11=>qb (i64 ((x11.length:Int) - 1)) fun x12=>qb (idx x11 x12) fun x13=>qb (za 20 gl3 gx2) fun x14=>qb (upd gl3 gx2 x13.Text) fun l15=>qb (i64 (gx2+1)) fun x16=>go1 x16 l15 else qgq gl3
def yj (th1:TStore):Nat→Int→(List (List UInt8))→Option (List (List UInt8))
 | 0,_,_=>none
 | n+1,gx2,gl3=>qcj (yj th1 n) th1 gx2 gl3
def M11 (a0:Int) (A70:(List TStore)):Option (List (List UInt8)) :=
 qb (idx A70 a0) fun th1=>qb (qQ 2 th1.logs_) fun _=>qb (qQ 20 th1.items_) fun _=>yj th1 big 0 (List.replicate 20 ([]:(List UInt8)))
def qjf (x38:Int) (l36:(List TStore)) (l35:(List TDisk)) (l25:(List Ttx)) (l37:(List TLog)) (gb24:Bool):Option ((List TDisk)×(List TStore)×(List Ttx)×(List TLog)×Bool) :=
 if gb24=true then qb (M11 x38 l36) fun x47=>qb (qQ 20 x47) fun _=>qb (qQ 20 ([[],[],[],[],[120],[],[],[],[],[],[],[],[],[],[],[],[],[],[],[]]:List (List UInt8))) fun _=>some (l35,l36,l25,l37,decide (x47=([[],[],[],[],[120],[],[],[],[],[],[],[],[],[],[],[],[],[],[],[]]:List (List UInt8)))) else some (l35,l36,l25,l37,false)
def qjg (gl5:(List TDisk)) (gl13:(List TLog)) (gx2:Int) (gx1:Int) (gb16:Bool) (gl17:(List TStore)) (gl21:(List Ttx)):Option ((List TDisk)×(List TStore)×(List Ttx)×(List TLog)×Bool) :=
 if gb16=true then some (gl5,gl17,gl21,gl13,false) else vq (M16 gx2 1 gl5 gl17 gl21 gl13) fun l1 l2 l3 l4 x5=>qb (ck (l1.length=gl5.length)) fun _=>qb (ck (l2.length=gl17.length)) fun _=>qb (ck (l3.length=gl21.length)) fun _=>qb (ck (l4.length=gl13.length)) fun _=>if x5≠0 then some (l1,l2,l3,l4,false) else zD (M14 gx2 2 l2 l3) fun l16 l17 x18=>qb (ck (l16.length=l2.length)) fun _=>if x18≠0 then some (l1,l16,l17,l4,false) else qI (M15 gx2 2 5 ([121]) l16 l17) fun l25 x26=>qb (ck (l25.length=l17.length)) fun _=>if x26≠0 then some (l1,l16,l25,l4,false) else qb (M9 gx1 [] l1) fun l31=>qb (ck (l31.length=l1.length)) fun _=>vq (M10 gx1 l31 l16 l4) fun l35 l36 l37 x38 x39=>qb (ck (l35.length=l31.length)) fun _=>if x39=0 then if 0≤x38 then qjf x38 l36 l35 l25 l37 true else qjf x38 l36 l35 l25 l37 false else qjf x38 l36 l35 l25 l37 false
def qjs (A88:(List Ttx)) (gx1:Int) (gx2:Int) (gb3:Bool) (gl5:(List TDisk)) (gl9:(List TStore)) (gl13:(List TLog)):Option ((List TDisk)×(List TStore)×(List Ttx)×(List TLog)×Bool) :=
 if gb3=true then zD (M14 gx2 1 gl9 A88) fun l53 l54 x55=>qb (ck (l53.length=gl9.length)) fun _=>if x55≠0 then qjg gl5 gl13 gx2 gx1 true l53 l54 else qI (M15 gx2 1 4 ([120]) l53 l54) fun l62 x63=>qb (ck (l62.length=l54.length)) fun _=>if x63≠0 then qjg gl5 gl13 gx2 gx1 true l53 l62 else qjg gl5 gl13 gx2 gx1 false l53 l62 else some (gl5,gl9,A88,gl13,false)
def M5 (A60:(List TDisk)) (A70:(List TStore)) (A88:(List Ttx)) (A100:(List TLog)):Option ((List TDisk)×(List TStore)×(List Ttx)×(List TLog)×Bool) :=
 qfV (M6 40 A60 A70 A100) fun l68 l69 l70 x71 x72 b73=>if b73=true then qjs A88 x71 x72 true l68 l69 l70 else qjs A88 x71 x72 false l68 l69 l70
def qcW (a0:(List TVersion)) (gx1:Int):Option ((List UInt8)×Bool) :=
 if gx1 < 0 then some ([],false) else qb (idx a0 gx1) fun x2=>some (x2.Text,true)
def qbO (go1:Int→Int→Option ((List UInt8)×Bool)) (a0:(List TVersion)) (a1:Int) (gx2:Int) (gx3:Int):Option ((List UInt8)×Bool) :=
 if gx3 < (a0.length:Int) then qb (idx a0 gx3) fun x4=>if x4.At≤a1 then qb (i64 (gx3+1)) fun x7=>go1 gx3 x7 else qb (i64 (gx3+1)) fun x8=>go1 gx2 x8 else qcW a0 gx2
def wT (a0:(List TVersion)) (a1:Int):Nat→Int→Int→Option ((List UInt8)×Bool)
 | 0,_,_=>none
 | n+1,gx2,gx3=>qbO (wT a0 a1 n) a0 a1 gx2 gx3
def M36 (a0:(List TVersion)) (a1:Int):Option ((List UInt8)×Bool) :=
 wT a0 a1 big (-1) 0
def qc8 (A70:(List TStore)) (a0:Int) (x2:Int) (a2:Int) (gl1:(List Ttx)):Option ((List Ttx)×(List UInt8)×Int) :=
 qb (idx A70 a0) fun th10=>qb (idx gl1 x2) fun th11=>qb (za 20 th10.items_ a2) fun x12=>qb (qQ 2 th10.logs_) fun _=>qI (M36 x12 th11.from_) fun s14 b15=>some (gl1,s14,0)
def M18 (a0:Int) (a1:Int) (a2:Int) (A70:(List TStore)) (A88:(List Ttx)):Option ((List Ttx)×(List UInt8)×Int) :=
 qb (idx A70 a0) fun th1=>qI (M30 a0 a1 a2 A70 A88) fun x2 x3=>qb (idx A70 a0) fun th5=>if x3≠0 then some (A88,[],x3) else qb (idx A88 x2) fun th7=>qb (M31 th7.writes_ a2) fun b8=>if b8=true then qb (za 20 th7.texts_ a2) fun x24=>some (A88,x24,0) else qb (M31 th7.reads_ a2) fun b17=>if b17=true then qc8 A70 a0 x2 a2 A88 else qb (app th7.reads_ ([a2])) fun l21=>qb (upd A88 x2 (⟨th7.id_,th7.from_,th7.at_,l21,th7.writes_,th7.texts_,th7.in_,th7.out_⟩:Ttx)) fun l23=>qc8 A70 a0 x2 a2 l23
def M19 (a0:Int) (a1:Int) (A70:(List TStore)) (A88:(List Ttx)):Option ((List TStore)×Int) :=
 qb (idx A70 a0) fun th1=>qI (M30 a0 a1 0 A70 A88) fun x2 x3=>qb (idx A70 a0) fun th5=>if x3=0 then qb (M33 a0 x2 A70 A88) fun l7=>qb (idx l7 a0) fun th10=>some (l7,x3) else some (A70,x3)
def M23 (a0:Int) (a1:(List UInt8)) (A60:(List TDisk)) (A100:(List TLog)):Option ((List TDisk)×(List TLog)×Int) :=
 qb (idx A100 a0) fun th1=>if th1.fell_=true then some (A60,A100,10) else if 300 < (a1.length:Int) then some (A60,A100,2) else qb (i64 (th1.epoch_+1)) fun x4=>qb (M43 x4 0 a1) fun l5=>if 1 < (l5.length:Int) then some (A60,A100,8) else zD (M40 a0 A60 A100) fun l9 l10 x11=>if x11≠0 then some (l9,l10,x11) else qb (idx l10 a0) fun th16=>qb (i64 (th16.from_+1)) fun x54=>qb (M43 th16.epoch_ 0 a1) fun l55=>qb (idx l55 0) fun x59=>qI (M44 th16.d_ x54 x59 l9) fun l60 x61=>if x61≠0 then qI (M45 a0 x61 l10) fun l66 x67=>some (l60,l66,x67) else qb (idx l10 a0) fun th70=>qI (M46 th70.d_ l60) fun l71 x72=>if x72≠0 then qI (M45 a0 x72 l10) fun l76 x77=>some (l71,l76,x77) else qb (idx l10 a0) fun th80=>qb (upd l10 a0 (⟨th80.d_,th80.from_,th80.size_,th80.epoch_,2,1,th80.fell_⟩:TLog)) fun l81=>some (l71,l81,0)
def qgp (x5:Int) (A70:(List TStore)) (a0:Int) (gl5:(List Int)) (gx6:Int) (gx7:Int) (gb8:Bool) (gx9:Int) (gl10:(List (List TVersion))) (gl11:(List Int)) (gl12:(List Int)) (gl13:(List TDisk)) (gl15:(List TLog)):Option ((List TDisk)×(List TStore)×(List TLog)×Int) :=
 zD (M28 x5 gl13 gl15) fun l22 l23 x24=>if x24≠0 then qb (upd A70 a0 (⟨gl5,gx6,gx7,gb8,gx9,gl10,gl11,gl12⟩:TStore)) fun l30=>qI (M25 a0 x24 l30) fun l31 x32=>qb (idx l31 a0) fun th35=>some (l22,l31,l23,x32) else qb (qQ 2 gl5) fun _=>qb (i64 (1 - gx6)) fun x43=>qb (i64 (gx7+1)) fun x44=>qb (upd A70 a0 (⟨gl5,x43,x44,gb8,gx9,gl10,gl11,gl12⟩:TStore)) fun l47=>some (l22,l47,l23,0)
def qal (go1:Int→(List TDisk)→(List TLog)→Option ((List TDisk)×(List TStore)×(List TLog)×Int)) (l50:(List (List UInt8))) (x5:Int) (A70:(List TStore)) (a0:Int) (gl5:(List Int)) (gx6:Int) (gx7:Int) (gb8:Bool) (gx9:Int) (gl10:(List (List TVersion))) (gl11:(List Int)) (gl12:(List Int)) (gx17:Int) (gl18:(List TDisk)) (gl20:(List TLog)):Option ((List TDisk)×(List TStore)×(List TLog)×Int) :=
 if gx17 < (l50.length:Int) then qb (idx l50 gx17) fun x52=>zD (M27 x5 x52 gl18 gl20) fun l53 l54 x55=>if x55=0 then qb (i64 (gx17+1)) fun x60=>go1 x60 l53 l54 else if x55=8 then qb (upd A70 a0 (⟨gl5,gx6,gx7,gb8,gx9,gl10,gl11,gl12⟩:TStore)) fun l63=>some (l53,l63,l54,x55) else qb (upd A70 a0 (⟨gl5,gx6,gx7,gb8,gx9,gl10,gl11,gl12⟩:TStore)) fun l65=>qI (M25 a0 x55 l65) fun l66 x67=>qb (idx l66 a0) fun th70=>some (l53,l66,l54,x67) else qgp x5 A70 a0 gl5 gx6 gx7 gb8 gx9 gl10 gl11 gl12 gl18 gl20
def vv (l50:(List (List UInt8))) (x5:Int) (A70:(List TStore)) (a0:Int) (gl5:(List Int)) (gx6:Int) (gx7:Int) (gb8:Bool) (gx9:Int) (gl10:(List (List TVersion))) (gl11:(List Int)) (gl12:(List Int)):Nat→Int→(List TDisk)→(List TLog)→Option ((List TDisk)×(List TStore)×(List TLog)×Int)
 | 0,_,_,_=>none
 | n+1,gx17,gl18,gl20=>qal (vv l50 x5 A70 a0 gl5 gx6 gx7 gb8 gx9 gl10 gl11 gl12 n) l50 x5 A70 a0 gl5 gx6 gx7 gb8 gx9 gl10 gl11 gl12 gx17 gl18 gl20
def qe3 (x5:Int) (A70:(List TStore)) (a0:Int) (l10:(List TDisk)) (l11:(List TLog)) (gl2:(List (List UInt8))) (gl5:(List Int)) (gx6:Int) (gx7:Int) (gb8:Bool) (gx9:Int) (gl10:(List (List TVersion))) (gl11:(List Int)) (gl12:(List Int)):Option ((List TDisk)×(List TStore)×(List TLog)×Int) :=
 qb (app gl2 ([[68]])) fun l50=>vv l50 x5 A70 a0 gl5 gx6 gx7 gb8 gx9 gl10 gl11 gl12 big 0 l10 l11
def qci (go2:(List (List UInt8))→Int→Option ((List TDisk)×(List TStore)×(List TLog)×Int)) (x71:(List (List UInt8))) (x5:Int) (A70:(List TStore)) (a0:Int) (l10:(List TDisk)) (l11:(List TLog)) (th73:TStore) (gl23:(List (List UInt8))) (gx24:Int):Option ((List TDisk)×(List TStore)×(List TLog)×Int) :=
 if gx24 < 20 then qb (za 20 x71 gx24) fun x75=>if x75≠[] then qb (M26 gx24 x75) fun s77=>qb (y8 ([83]) s77) fun s79=>qb (app gl23 ([s79])) fun l82=>qb (i64 (gx24+1)) fun x83=>go2 l82 x83 else qb (i64 (gx24+1)) fun x84=>go2 gl23 x84 else qe3 x5 A70 a0 l10 l11 gl23 th73.logs_ th73.half_ th73.gen_ th73.down_ th73.now_ th73.items_ th73.active_ th73.over_
def yi (x71:(List (List UInt8))) (x5:Int) (A70:(List TStore)) (a0:Int) (l10:(List TDisk)) (l11:(List TLog)) (th73:TStore):Nat→(List (List UInt8))→Int→Option ((List TDisk)×(List TStore)×(List TLog)×Int)
 | 0,_,_=>none
 | n+1,gl23,gx24=>qci (yi x71 x5 A70 a0 l10 l11 th73 n) x71 x5 A70 a0 l10 l11 th73 gl23 gx24
def M13 (a0:Int) (A60:(List TDisk)) (A70:(List TStore)) (A100:(List TLog)):Option ((List TDisk)×(List TStore)×(List TLog)×Int) :=
 qb (idx A70 a0) fun th1=>qb (qQ 2 th1.logs_) fun _=>if th1.down_=true then some (A60,A70,A100,13) else qb (i64 (1 - th1.half_)) fun x4=>qb (za 2 th1.logs_ x4) fun x5=>qb (i64 (th1.gen_+1)) fun x6=>qb (M24 x6) fun s7=>qb (y8 ([72]) s7) fun s9=>zD (M23 x5 s9 A60 A100) fun l10 l11 x12=>if x12≠0 then qI (M25 a0 x12 A70) fun l17 x18=>qb (idx l17 a0) fun th21=>some (l10,l17,l11,x18) else qb (M11 a0 A70) fun x71=>qb (idx A70 a0) fun th73=>yi x71 x5 A70 a0 l10 l11 th73 big [] 0
def M12 (a0:Int) (a1:Int) (A60:(List TDisk)):Option (List TDisk) :=
 qb (idx A60 a0) fun th1=>qb (upd A60 a0 (⟨th1.safe_,th1.seen_,th1.late_,(max a1 (-1))⟩:TDisk)) fun l2=>some l2
def qg1 (x18:Int) (a3:(List Bool)) (l31:(List TDisk)) (x19:Int) (l32:(List TStore)) (l33:(List TLog)) (gl10:(List (List UInt8))):Option Bool :=
 qb (M9 x18 a3 l31) fun l39=>qb (ck (x19 < l32.length)) fun _=>vq (M10 x18 l39 l32 l33) fun l43 l44 l45 x46 x47=>if x47=8 then some true else if x47=0 then if 0≤x46 then qb (qQ 20 gl10) fun _=>qb (M11 x46 l44) fun x59=>qb (qQ 20 x59) fun _=>qb (qQ 20 gl10) fun _=>some (decide (x59=gl10)) else some false else some false
def qit (x19:Int) (gl3:(List TStore)) (gl5:(List TLog)) (gl10:(List (List UInt8))) (a2:Int) (x18:Int) (a3:(List Bool)) (gl15:(List TDisk)):Option Bool :=
 wI (M13 x19 gl15 gl3 gl5) fun l31 l32 l33 x34=>qb (qQ 20 gl10) fun _=>qb (M11 x19 l32) fun x66=>qb (qQ 20 x66) fun _=>qb (qQ 20 gl10) fun _=>if x66≠gl10 then some false else if a2 < 0 then if x34≠0 then if x34≠8 then if x34≠13 then some false else qg1 x18 a3 l31 x19 l32 l33 gl10 else qg1 x18 a3 l31 x19 l32 l33 gl10 else qg1 x18 a3 l31 x19 l32 l33 gl10 else qg1 x18 a3 l31 x19 l32 l33 gl10
def qjh (a2:Int) (x18:Int) (x19:Int) (a3:(List Bool)) (gl1:(List TDisk)) (gl3:(List TStore)) (gl5:(List TLog)) (gl8:(List Ttx)) (gl10:(List (List UInt8))) (gl11:(List (List UInt8))) (gb12:Bool) (gl13:(List (Int×(List (Int×(List UInt8)))))):Option Bool :=
 if 0≤a2 then qb (M12 x18 a2 gl1) fun l77=>qit x19 gl3 gl5 gl10 a2 x18 a3 l77 else qit x19 gl3 gl5 gl10 a2 x18 a3 gl1
def qbN (gx17:Int) (go1:Int→(List TDisk)→(List TStore)→(List TLog)→(List Ttx)→(List (List UInt8))→(List (List UInt8))→Bool→(List (Int×(List (Int×(List UInt8)))))→Option Bool) (gx32:Int) (gs33:(List UInt8)) (gl34:(List TDisk)) (gl36:(List TStore)) (gl38:(List TLog)) (gl41:(List Ttx)) (gl43:(List (List UInt8))) (gl44:(List (List UInt8))) (gb45:Bool) (gl46:(List (Int×(List (Int×(List UInt8)))))):Option Bool :=
 qb (i64 (gx17+1)) fun x84=>go1 x84 gl34 gl36 gl38 gl41 gl43 gl44 gb45 gl46
def qjt (gx17:Int) (go1:Int→(List TDisk)→(List TStore)→(List TLog)→(List Ttx)→(List (List UInt8))→(List (List UInt8))→Bool→(List (Int×(List (Int×(List UInt8)))))→Option Bool) (gl18:(List TDisk)) (gl20:(List TStore)) (gl22:(List TLog)) (gl25:(List Ttx)) (gl27:(List (List UInt8))) (gl28:(List (List UInt8))) (gb29:Bool) (gl30:(List (Int×(List (Int×(List UInt8)))))):Option Bool :=
 qbN gx17 go1 1 [] gl18 gl20 gl22 gl25 gl27 gl28 gb29 gl30
def kj (gx17:Int) (go1:Int→(List TDisk)→(List TStore)→(List TLog)→(List Ttx)→(List (List UInt8))→(List (List UInt8))→Bool→(List (Int×(List (Int×(List UInt8)))))→Option Bool) (x156:Int) (l152:(List TDisk)) (l153:(List TStore)) (l155:(List TLog)) (l154:(List Ttx)) (gl30:(List (Int×(List (Int×(List UInt8)))))) (gl53:(List (List UInt8))) (gl54:(List (List UInt8))) (gb55:Bool):Option Bool :=
 qbN gx17 go1 x156 [] l152 l153 l155 l154 gl53 gl54 gb55 gl30
def qaU (x156:Int) (gx17:Int) (go1:Int→(List TDisk)→(List TStore)→(List TLog)→(List Ttx)→(List (List UInt8))→(List (List UInt8))→Bool→(List (Int×(List (Int×(List UInt8)))))→Option Bool) (l152:(List TDisk)) (l153:(List TStore)) (l155:(List TLog)) (l154:(List Ttx)) (gl30:(List (Int×(List (Int×(List UInt8)))))) (gl28:(List (List UInt8))) (gb29:Bool) (gl27:(List (List UInt8))) (gl52:(List (List UInt8))):Option Bool :=
 if x156=0 then qb (qQ 20 gl52) fun _=>qb (qQ 20 gl52) fun _=>kj gx17 go1 x156 l152 l153 l155 l154 gl30 gl52 gl28 gb29 else if x156=12 then kj gx17 go1 x156 l152 l153 l155 l154 gl30 gl27 gl28 gb29 else if x156=6 then kj gx17 go1 x156 l152 l153 l155 l154 gl30 gl27 gl28 gb29 else if x156=8 then kj gx17 go1 x156 l152 l153 l155 l154 gl30 gl27 gl28 gb29 else if x156=2 then kj gx17 go1 x156 l152 l153 l155 l154 gl30 gl27 gl28 gb29 else if x156=1 then kj gx17 go1 x156 l152 l153 l155 l154 gl30 gl27 gl28 gb29 else qb (qQ 20 gl28) fun _=>if gb29=true then kj gx17 go1 x156 l152 l153 l155 l154 gl30 gl27 gl28 gb29 else qb (qQ 20 gl52) fun _=>qb (qQ 20 gl52) fun _=>kj gx17 go1 x156 l152 l153 l155 l154 gl30 gl27 gl52 true
def qh6 (go2:Option Bool) (x156:Int) (gx17:Int) (go1:Int→(List TDisk)→(List TStore)→(List TLog)→(List Ttx)→(List (List UInt8))→(List (List UInt8))→Bool→(List (Int×(List (Int×(List UInt8)))))→Option Bool) (l152:(List TDisk)) (l153:(List TStore)) (l155:(List TLog)) (l154:(List Ttx)) (gl30:(List (Int×(List (Int×(List UInt8)))))) (gl28:(List (List UInt8))) (gb29:Bool) (gl27:(List (List UInt8))):Option Bool :=
 qaU x156 gx17 go1 l152 l153 l155 l154 gl30 gl28 gb29 gl27 gl27
def qh7 (x156:Int) (gx17:Int) (go1:Int→(List TDisk)→(List TStore)→(List TLog)→(List Ttx)→(List (List UInt8))→(List (List UInt8))→Bool→(List (Int×(List (Int×(List UInt8)))))→Option Bool) (l152:(List TDisk)) (l153:(List TStore)) (l155:(List TLog)) (l154:(List Ttx)) (gl30:(List (Int×(List (Int×(List UInt8)))))) (gl28:(List (List UInt8))) (gb29:Bool) (gl27:(List (List UInt8))):Nat→Option Bool
 | 0=>none
 | n+1=>qh6 (qh7 x156 gx17 go1 l152 l153 l155 l154 gl30 gl28 gb29 gl27 n) x156 gx17 go1 l152 l153 l155 l154 gl30 gl28 gb29 gl27
def qh5 (go3:(List (Int×(List UInt8)))→(List (List UInt8))→Option Bool) (x156:Int) (gx17:Int) (go1:Int→(List TDisk)→(List TStore)→(List TLog)→(List Ttx)→(List (List UInt8))→(List (List UInt8))→Bool→(List (Int×(List (Int×(List UInt8)))))→Option Bool) (l152:(List TDisk)) (l153:(List TStore)) (l155:(List TLog)) (l154:(List Ttx)) (gl30:(List (Int×(List (Int×(List UInt8)))))) (gl28:(List (List UInt8))) (gb29:Bool) (gl27:(List (List UInt8))) (gl56:(List (Int×(List UInt8)))) (gl57:(List (List UInt8))):Option Bool :=
 qjL gl56 (qaU x156 gx17 go1 l152 l153 l155 l154 gl30 gl28 gb29 gl27 gl57) fun x185 x186 l187=>qb (za 20 gl57 x185) fun x188=>qb (upd gl57 x185 x186) fun l189=>go3 l187 l189
def qgh (x156:Int) (gx17:Int) (go1:Int→(List TDisk)→(List TStore)→(List TLog)→(List Ttx)→(List (List UInt8))→(List (List UInt8))→Bool→(List (Int×(List (Int×(List UInt8)))))→Option Bool) (l152:(List TDisk)) (l153:(List TStore)) (l155:(List TLog)) (l154:(List Ttx)) (gl30:(List (Int×(List (Int×(List UInt8)))))) (gl28:(List (List UInt8))) (gb29:Bool) (gl27:(List (List UInt8))):Nat→(List (Int×(List UInt8)))→(List (List UInt8))→Option Bool
 | 0,_,_=>none
 | n+1,gl56,gl57=>qh5 (qgh x156 gx17 go1 l152 l153 l155 l154 gl30 gl28 gb29 gl27 n) x156 gx17 go1 l152 l153 l155 l154 gl30 gl28 gb29 gl27 gl56 gl57
def qip (x19:Int) (x81:TDeed) (gl18:(List TDisk)) (gl20:(List TStore)) (gl25:(List Ttx)) (gl22:(List TLog)) (gl27:(List (List UInt8))) (gl30:(List (Int×(List (Int×(List UInt8)))))) (gx17:Int) (go1:Int→(List TDisk)→(List TStore)→(List TLog)→(List Ttx)→(List (List UInt8))→(List (List UInt8))→Bool→(List (Int×(List (Int×(List UInt8)))))→Option Bool) (gl28:(List (List UInt8))) (gb29:Bool) (gb51:Bool):Option Bool :=
 if gb51=true then vq (M16 x19 x81.Wish.Tx gl18 gl20 gl25 gl22) fun l152 l153 l154 l155 x156=>qb (qQ 20 gl27) fun _=>qb (qQ 20 (List.replicate 20 ([]:(List UInt8)))) fun _=>qb (qQ 20 gl27) fun _=>qjm (ze gl30 x81.Wish.Tx) (qh7 x156 gx17 go1 l152 l153 l155 l154 gl30 gl28 gb29 gl27 big) fun l183=>qgh x156 gx17 go1 l152 l153 l155 l154 gl30 gl28 gb29 gl27 big l183 gl27 else if x81.Wish.Kind=5 then qI (M19 x19 x81.Wish.Tx gl20 gl25) fun l93 x94=>qbN gx17 go1 x94 [] gl18 l93 gl22 gl25 gl27 gl28 gb29 gl30 else if x81.Wish.Kind=6 then wI (M13 x19 gl18 gl20 gl22) fun l99 l100 l101 x102=>qbN gx17 go1 x102 [] l99 l100 l101 gl25 gl27 gl28 gb29 gl30 else qjt gx17 go1 gl18 gl20 gl22 gl25 gl27 gl28 gb29 gl30
def qiq (x19:Int) (x81:TDeed) (gl20:(List TStore)) (gl25:(List Ttx)) (gl30:(List (Int×(List (Int×(List UInt8)))))) (gx17:Int) (go1:Int→(List TDisk)→(List TStore)→(List TLog)→(List Ttx)→(List (List UInt8))→(List (List UInt8))→Bool→(List (Int×(List (Int×(List UInt8)))))→Option Bool) (gl18:(List TDisk)) (gl22:(List TLog)) (gl27:(List (List UInt8))) (gl28:(List (List UInt8))) (gb29:Bool) (gb50:Bool):Option Bool :=
 if gb50=true then qI (M15 x19 x81.Wish.Tx x81.Wish.Item x81.Wish.Text gl20 gl25) fun l197 x198=>if x198=0 then qb (ze gl30 x81.Wish.Tx) fun l210=>qbN gx17 go1 x198 [] gl18 gl20 gl22 l197 gl27 gl28 gb29 (qU gl30 x81.Wish.Tx (qU l210 x81.Wish.Item x81.Wish.Text)) else qbN gx17 go1 x198 [] gl18 gl20 gl22 l197 gl27 gl28 gb29 gl30 else if x81.Wish.Kind=4 then qip x19 x81 gl18 gl20 gl25 gl22 gl27 gl30 gx17 go1 gl28 gb29 true else qip x19 x81 gl18 gl20 gl25 gl22 gl27 gl30 gx17 go1 gl28 gb29 false
def qir (x19:Int) (x81:TDeed) (gl20:(List TStore)) (gl25:(List Ttx)) (gx17:Int) (go1:Int→(List TDisk)→(List TStore)→(List TLog)→(List Ttx)→(List (List UInt8))→(List (List UInt8))→Bool→(List (Int×(List (Int×(List UInt8)))))→Option Bool) (gl18:(List TDisk)) (gl22:(List TLog)) (gl27:(List (List UInt8))) (gl28:(List (List UInt8))) (gb29:Bool) (gl30:(List (Int×(List (Int×(List UInt8)))))) (gb49:Bool):Option Bool :=
 if gb49=true then zD (M18 x19 x81.Wish.Tx x81.Wish.Item gl20 gl25) fun l219 s220 x221=>qbN gx17 go1 x221 s220 gl18 gl20 gl22 l219 gl27 gl28 gb29 gl30 else if x81.Wish.Kind=3 then qiq x19 x81 gl20 gl25 gl30 gx17 go1 gl18 gl22 gl27 gl28 gb29 true else qiq x19 x81 gl20 gl25 gl30 gx17 go1 gl18 gl22 gl27 gl28 gb29 false
def qis (x19:Int) (x81:TDeed) (gl20:(List TStore)) (gl25:(List Ttx)) (gx17:Int) (go1:Int→(List TDisk)→(List TStore)→(List TLog)→(List Ttx)→(List (List UInt8))→(List (List UInt8))→Bool→(List (Int×(List (Int×(List UInt8)))))→Option Bool) (gl18:(List TDisk)) (gl22:(List TLog)) (gl27:(List (List UInt8))) (gl28:(List (List UInt8))) (gb29:Bool) (gl30:(List (Int×(List (Int×(List UInt8)))))) (gb48:Bool):Option Bool :=
 if gb48=true then zD (M14 x19 x81.Wish.Tx gl20 gl25) fun l243 l244 x245=>if x245=0 then qbN gx17 go1 x245 [] gl18 l243 gl22 l244 gl27 gl28 gb29 (qU gl30 x81.Wish.Tx []) else qbN gx17 go1 x245 [] gl18 l243 gl22 l244 gl27 gl28 gb29 gl30 else if x81.Wish.Kind=2 then qir x19 x81 gl20 gl25 gx17 go1 gl18 gl22 gl27 gl28 gb29 gl30 true else qir x19 x81 gl20 gl25 gx17 go1 gl18 gl22 gl27 gl28 gb29 gl30 false
def qgi (go1:Int→(List TDisk)→(List TStore)→(List TLog)→(List Ttx)→(List (List UInt8))→(List (List UInt8))→Bool→(List (Int×(List (Int×(List UInt8)))))→Option Bool) (a1:(List TDeed)) (x19:Int) (a2:Int) (x18:Int) (a3:(List Bool)) (gx17:Int) (gl18:(List TDisk)) (gl20:(List TStore)) (gl22:(List TLog)) (gl25:(List Ttx)) (gl27:(List (List UInt8))) (gl28:(List (List UInt8))) (gb29:Bool) (gl30:(List (Int×(List (Int×(List UInt8)))))):Option Bool :=
 if gx17 < (a1.length:Int) then qb (idx a1 gx17) fun x81=>if x81.Wish.Kind < 7 then if x81.Wish.Kind=1 then qis x19 x81 gl20 gl25 gx17 go1 gl18 gl22 gl27 gl28 gb29 gl30 true else qis x19 x81 gl20 gl25 gx17 go1 gl18 gl22 gl27 gl28 gb29 gl30 false else qb (i64 (gx17+1)) fun x265=>go1 x265 gl18 gl20 gl22 gl25 gl27 gl28 gb29 gl30 else qjh a2 x18 x19 a3 gl18 gl20 gl22 gl25 gl27 gl28 gb29 gl30
def qe6 (a1:(List TDeed)) (x19:Int) (a2:Int) (x18:Int) (a3:(List Bool)):Nat→Int→(List TDisk)→(List TStore)→(List TLog)→(List Ttx)→(List (List UInt8))→(List (List UInt8))→Bool→(List (Int×(List (Int×(List UInt8)))))→Option Bool
 | 0,_,_,_,_,_,_,_,_,_=>none
 | n+1,gx17,gl18,gl20,gl22,gl25,gl27,gl28,gb29,gl30=>qgi (qe6 a1 x19 a2 x18 a3 n) a1 x19 a2 x18 a3 gx17 gl18 gl20 gl22 gl25 gl27 gl28 gb29 gl30
def M4 (a0:Int) (a1:(List TDeed)) (a2:Int) (a3:(List Bool)):Option Bool :=
 vq (M5 [] [] [] []) fun l1 l2 l3 l4 b5=>if b5=true then qfV (M6 a0 l1 l2 l4) fun l15 l16 l17 x18 x19 b20=>if b20=true then qe6 a1 x19 a2 x18 a3 big 0 l15 l16 l17 l3 (List.replicate 20 ([]:(List UInt8))) (List.replicate 20 ([]:(List UInt8))) false [] else some true else some false
end Go.Proofs.YtbjidacdnjojnaaGreatDoor
