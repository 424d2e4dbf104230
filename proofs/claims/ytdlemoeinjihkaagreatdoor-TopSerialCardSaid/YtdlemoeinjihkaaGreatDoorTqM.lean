import Derived.Test.YtdlemoeinjihkaaGreatDoorZc
import Derived.Test.YtdlemoeinjihkaaGreatDoorZb
import Derived.Test.YtdlemoeinjihkaaGreatDoorZd
namespace Go.Proofs.YtdlemoeinjihkaaGreatDoor
open Go.S
set_option linter.unusedVariables false
structure Twrite where
 at_:Int
 text_:(List UInt8)
 deriving DecidableEq,Inhabited
def Twrite.row (x:Twrite):List Value:=[.int .i64 x.at_,st x.text_]
structure TDisk where
 safe_:(List (List UInt8))
 seen_:(List (List UInt8))
 late_:(List Twrite)
 left_:Int
 deriving DecidableEq,Inhabited
def TDisk.rowA (x:TDisk) (vs:List Value):List Value:=[gv vs 0,gv vs 1,gv vs 2,.int .i64 x.left_]
def TDisk.subA (x:TDisk) (vs:List Value):List As:=[.sl (gv vs 0) 9 1 (x.safe_.map SR),.sl (gv vs 1) 9 1 (x.seen_.map SR),.sl (gv vs 2) 116 2 (x.late_.map Twrite.row)]
abbrev qS (gP114:Nat→Nat) (gh:Nat→List Value) (l:List TDisk) (hs:List Nat):As:=arn (TDisk.rowA) (TDisk.subA) 114 gP114 gh l hs
structure TLog where
 d_:Int
 from_:Int
 size_:Int
 epoch_:Int
 at_:Int
 seq_:Int
 fell_:Bool
 deriving DecidableEq,Inhabited
def TLog.rowA (gP114:Nat→Nat) (x:TLog) (vs:List Value):List Value:=[VP gP114 x.d_,.int .i64 x.from_,.int .i64 x.size_,.int .i64 x.epoch_,.int .i64 x.at_,.int .i64 x.seq_,.bool x.fell_]
def TLog.subA (gP114:Nat→Nat) (x:TLog) (vs:List Value):List As:=[]
abbrev qY (gP114:Nat→Nat) (gP152:Nat→Nat) (gh:Nat→List Value) (l:List TLog) (hs:List Nat):As:=arn (TLog.rowA gP114) (TLog.subA gP114) 152 gP152 gh l hs
abbrev TLog.ok114 (n:Nat) (x:TLog):Prop:=(x.d_ < n)
theorem TLog.cg114 {gP114:Nat→Nat} {n n':Nat} {g':Nat→Nat} {x:TLog} {v:List Value} (h:Gr gP114 n g' n') (hx:x.ok114 n):TLog.rowA gP114 x v=TLog.rowA g' x v∧TLog.subA gP114 x v=TLog.subA g' x v:=by
 have h0:=hx
 constructor <;> simp only [TLog.rowA,TLog.subA,qlw h h0]
theorem qcj {gP114 gP152:Nat→Nat} {n n':Nat} {g':Nat→Nat} {gh:Nat→List Value} {l:List TLog} {hs:List Nat} (h:Gr gP114 n g' n') (hx:∀ x∈l,TLog.ok114 n x):qY gP114 gP152 gh l hs=qY g' gP152 gh l hs:=qg1 fun x hm v=>TLog.cg114 h (hx x hm)
structure Trecord where
 epoch_:Int
 text_:(List UInt8)
 size_:Int
 deriving DecidableEq,Inhabited
def Trecord.row (x:Trecord):List Value:=[.int .i64 x.epoch_,st x.text_,.int .i64 x.size_]
structure qi where
 gen_:Int
 whole_:Bool
 values_:(List (List UInt8))
 deriving DecidableEq,Inhabited
structure TVersion where
 At:Int
 Text:(List UInt8)
 deriving DecidableEq,Inhabited
def TVersion.row (x:TVersion):List Value:=[.int .i64 x.At,st x.Text]
structure TStore where
 logs_:(List Int)
 half_:Int
 gen_:Int
 down_:Bool
 now_:Int
 items_:(List (List TVersion))
 active_:(List Int)
 over_:(List Int)
 deriving DecidableEq,Inhabited
def TStore.rowA (gP73:Nat→Nat) (gP152:Nat→Nat) (x:TStore) (vs:List Value):List Value:=List.flatten [(zr (fzr (PR gP152)) (fun _=>[]) x.logs_).flatten,[.int .i64 x.half_],[.int .i64 x.gen_],[.bool x.down_],[.int .i64 x.now_],(zr qh (qV vs 2) x.items_).flatten,[gv vs 0],[gv vs 1]]
def TStore.subA (gP73:Nat→Nat) (gP152:Nat→Nat) (x:TStore) (vs:List Value):List As:=[.sl (gv vs 0) 70 1 (x.active_.map (PR gP73)),.sl (gv vs 1) 70 1 (x.over_.map (PR gP73)),.ss (zs sd0 (fun _=>[]) x.logs_),.ss (zs (qF 84 2 TVersion.row) (qV vs 2) x.items_)]
abbrev zg (gP69:Nat→Nat) (gP73:Nat→Nat) (gP152:Nat→Nat) (gh:Nat→List Value) (l:List TStore) (hs:List Nat):As:=arn (TStore.rowA gP73 gP152) (TStore.subA gP73 gP152) 69 gP69 gh l hs
abbrev TStore.ok73 (n:Nat) (x:TStore):Prop:=(∀ k∈x.active_,k < n)∧(∀ k∈x.over_,k < n)
theorem TStore.cg73 {gP73:Nat→Nat} {gP152:Nat→Nat} {n n':Nat} {g':Nat→Nat} {x:TStore} {v:List Value} (h:Gr gP73 n g' n') (hx:x.ok73 n):TStore.rowA gP73 gP152 x v=TStore.rowA g' gP152 x v∧TStore.subA gP73 gP152 x v=TStore.subA g' gP152 x v:=by
 obtain ⟨h0,h1⟩:=hx
 constructor <;> simp only [TStore.rowA,TStore.subA,qi3 h h0,qi3 h h1]
theorem qg2 {gP69 gP73 gP152:Nat→Nat} {n n':Nat} {g':Nat→Nat} {gh:Nat→List Value} {l:List TStore} {hs:List Nat} (h:Gr gP73 n g' n') (hx:∀ x∈l,TStore.ok73 n x):zg gP69 gP73 gP152 gh l hs=zg gP69 g' gP152 gh l hs:=qg1 fun x hm v=>TStore.cg73 h (hx x hm)
abbrev TStore.ok152 (n:Nat) (x:TStore):Prop:=(∀ k∈x.logs_,k < n)
theorem TStore.cg152 {gP73:Nat→Nat} {gP152:Nat→Nat} {n n':Nat} {g':Nat→Nat} {x:TStore} {v:List Value} (h:Gr gP152 n g' n') (hx:x.ok152 n):TStore.rowA gP73 gP152 x v=TStore.rowA gP73 g' x v∧TStore.subA gP73 gP152 x v=TStore.subA gP73 g' x v:=by
 have h0:=hx
 constructor <;> simp only [TStore.rowA,TStore.subA,qct h _ _ h0]
theorem w7 {gP69 gP73 gP152:Nat→Nat} {n n':Nat} {g':Nat→Nat} {gh:Nat→List Value} {l:List TStore} {hs:List Nat} (h:Gr gP152 n g' n') (hx:∀ x∈l,TStore.ok152 n x):zg gP69 gP73 gP152 gh l hs=zg gP69 gP73 g' gh l hs:=qg1 fun x hm v=>TStore.cg152 h (hx x hm)
structure Ttx where
 id_:Int
 from_:Int
 at_:Int
 reads_:(List Int)
 writes_:(List Int)
 texts_:(List (List UInt8))
 in_:Bool
 out_:Bool
 deriving DecidableEq,Inhabited
def Ttx.rowA (x:Ttx) (vs:List Value):List Value:=List.flatten [[.int .i64 x.id_],[.int .i64 x.from_],[.int .i64 x.at_],[gv vs 0],[gv vs 1],(zr (fzr SR) (fun _=>[]) x.texts_).flatten,[.bool x.in_],[.bool x.out_]]
def Ttx.subA (x:Ttx) (vs:List Value):List As:=[.sl (gv vs 0) 3 1 (x.reads_.map I),.sl (gv vs 1) 3 1 (x.writes_.map I),.ss (zs sd0 (fun _=>[]) x.texts_)]
abbrev zE (gP73:Nat→Nat) (gh:Nat→List Value) (l:List Ttx) (hs:List Nat):As:=arn (Ttx.rowA) (Ttx.subA) 73 gP73 gh l hs
structure TGot where
 Item:Int
 From:Int
 deriving DecidableEq,Inhabited
def TGot.row (x:TGot):List Value:=[.int .i64 x.Item,.int .i64 x.From]
structure TTale where
 Tx:Int
 Reads:(List TGot)
 deriving DecidableEq,Inhabited
def TTale.rowv (x:TTale) (vs:List Value):List Value:=[.int .i64 x.Tx,gv vs 0]
def TTale.sds (x:TTale) (vs:List Value):List Sd:=[⟨gv vs 0,92,2,x.Reads.map TGot.row⟩]
structure TStory where
 Tales:(List TTale)
 Versions:(List (List Int))
 deriving DecidableEq,Inhabited
def TStory.rowv (x:TStory) (vs:List Value):List Value:=[gv vs 0,gv vs 1]
structure TOp where
 Tx:Int
 Kind:Int
 Item:Int
 deriving DecidableEq,Inhabited
def TOp.row (x:TOp):List Value:=[.int .i64 x.Tx,.int .i64 x.Kind,.int .i64 x.Item]
structure TDid where
 OK:Bool
 From:Int
 deriving DecidableEq,Inhabited
def TDid.row (x:TDid):List Value:=[.bool x.OK,.int .i64 x.From]
structure TDep where
 From:Int
 To:Int
 Kind:Int
 deriving DecidableEq,Inhabited
def TDep.row (x:TDep):List Value:=[.int .i64 x.From,.int .i64 x.To,.int .i64 x.Kind]
structure TE where
 From:Int
 To:Int
 deriving DecidableEq,Inhabited
def TE.row (x:TE):List Value:=[.int .i64 x.From,.int .i64 x.To]
structure TWish where
 Kind:Int
 Tx:Int
 Item:Int
 Text:(List UInt8)
 deriving DecidableEq,Inhabited
def TWish.row (x:TWish):List Value:=[.int .i64 x.Kind,.int .i64 x.Tx,.int .i64 x.Item,st x.Text]
noncomputable section
def qlD (gx1:Int) (gl3:(List TDisk)):Option ((List TDisk)×Int×Int) :=
 qb (idx gl3 gx1) fun th5=>qb (app [] th5.safe_) fun l7=>qb (upd gl3 gx1 (⟨th5.safe_,l7,th5.late_,th5.left_⟩:TDisk)) fun l8=>some (l8,gx1,0)
def qkc (go1:Int→(List TDisk)→Option ((List TDisk)×Int×Int)) (a0:Int) (x11:Int) (gx6:Int) (gl7:(List TDisk)):Option ((List TDisk)×Int×Int) :=
 if gx6 < a0 then qb (idx gl7 x11) fun th17=>qb (xA ([0]) 64) fun s33=>qb (app th17.safe_ ([s33])) fun l37=>qb (i64 (gx6+1)) fun x39=>qb (upd gl7 x11 (⟨l37,th17.seen_,th17.late_,th17.left_⟩:TDisk)) fun l40=>go1 x39 l40 else qlD x11 gl7
def qe3 (a0:Int) (x11:Int):Nat→Int→(List TDisk)→Option ((List TDisk)×Int×Int)
 | 0,_,_=>none
 | n+1,gx6,gl7=>qkc (qe3 a0 x11 n) a0 x11 gx6 gl7
def M16 (a0:Int) (A114:(List TDisk)):Option ((List TDisk)×Int×Int) :=
 if a0 < 1 then some (A114,(-1),1) else if 256 < a0 then some (A114,(-1),1) else qB (qiA A114 (⟨[],[],[],(-1)⟩:TDisk)) fun x11 l12=>qe3 a0 x11 big 0 l12
def M35 (a0:Int) (A114:(List TDisk)):Option Int :=
 qb (idx A114 a0) fun th1=>some (th1.safe_.length:Int)
def M67 (a0:Int) (a1:Int) (A114:(List TDisk)):Option ((List UInt8)×Int) :=
 if a1 < 0 then some ([],1) else qb (idx A114 a0) fun th2=>if (th2.safe_.length:Int)≤a1 then some ([],1) else if th2.left_=0 then some ([],13) else qb (idx th2.seen_ a1) fun x5=>some (x5,0)
def qdX (gs1:(List UInt8)):Option (List UInt8) :=
 some gs1
def qhG (go1:(List UInt8)→Option (List UInt8)) (a1:Int) (gs2:(List UInt8)):Option (List UInt8) :=
 if 0 < (gs2.length:Int) then qb (i64 ((gs2.length:Int) - 1)) fun x2=>qb (qeE gs2 x2) fun x3=>if x3=a1 then qb (i64 ((gs2.length:Int) - 1)) fun x5=>qb (cut gs2 0 x5) fun s6=>go1 s6 else qdX gs2 else qdX gs2
def ye (a1:Int):Nat→(List UInt8)→Option (List UInt8)
 | 0,_=>none
 | n+1,gs2=>qhG (ye a1 n) a1 gs2
def qoD (a0:(List UInt8)) (a1:Int):Option (List UInt8) :=
 ye a1 big a0
def qdY (gs1:(List UInt8)):Option (List UInt8) :=
 some gs1
def qhH (go1:(List UInt8)→Option (List UInt8)) (a1:Int) (gs2:(List UInt8)):Option (List UInt8) :=
 if 0 < (gs2.length:Int) then qb (qeE gs2 0) fun x2=>if x2=a1 then qb (cut gs2 1 gs2.length) fun s4=>go1 s4 else qdY gs2 else qdY gs2
def yf (a1:Int):Nat→(List UInt8)→Option (List UInt8)
 | 0,_=>none
 | n+1,gs2=>qhH (yf a1 n) a1 gs2
def qoE (a0:(List UInt8)) (a1:Int):Option (List UInt8) :=
 yf a1 big a0
def qhF (gl1:(List Bool)):Option ((List Bool)×Bool) :=
 qb (zi 256 gl1) fun _=>qb (zi 256 gl1) fun _=>qb (zi 256 gl1) fun _=>qb (zi 256 gl1) fun _=>some (gl1,true)
def qhE (go1:Int→(List Bool)→Option ((List Bool)×Bool)) (a0:(List UInt8)) (gx2:Int) (gl3:(List Bool)):Option ((List Bool)×Bool) :=
 if gx2 < (a0.length:Int) then qb (qeE a0 gx2) fun x7=>if 128≤x7 then qb (zi 256 gl3) fun _=>qb (zi 256 gl3) fun _=>qb (zi 256 gl3) fun _=>qb (zi 256 gl3) fun _=>some (gl3,false) else qb (zD 256 gl3 x7) fun x13=>qb (upd gl3 x7 true) fun l14=>qb (i64 (gx2+1)) fun x15=>go1 x15 l14 else qhF gl3
def yd (a0:(List UInt8)):Nat→Int→(List Bool)→Option ((List Bool)×Bool)
 | 0,_,_=>none
 | n+1,gx2,gl3=>qhE (yd a0 n) a0 gx2 gl3
def qpd (a0:(List UInt8)):Option ((List Bool)×Bool) :=
 yd a0 big 0 (List.replicate 256 (false:Bool))
def qpb (a0:Int):Option Bool :=
 some (decide ((Go.bits .and .u8 a0 192)≠128))
def qbo (gb2:Bool):Option Bool :=
 if gb2=true then some true else some false
def qbp (a0:Int) (gb1:Bool):Option Bool :=
 if gb1=true then some true else if 57343 < a0 then if a0≤1114111 then qbo true else qbo false else qbo false
def qpa (a0:Int):Option Bool :=
 if 0≤a0 then if a0 < 55296 then qbp a0 true else qbp a0 false else qbp a0 false
def qo9 (a0:Int):Option Int :=
 qb (i64 (a0+16)) fun x1=>qb (qny .i64 x1 8) fun x2=>some x2
def qoI (a0:(List UInt8)) (a1:(List UInt8)):Option (List UInt8) :=
 if a0=[] then some a0 else if a1=[] then some a0 else if (a1.length:Int)=1 then qb (qeE a1 0) fun x4=>if x4 < 128 then qb (qeE a1 0) fun x6=>qb (qoD a0 x6) fun s7=>qb (qeE a1 0) fun x9=>qb (qoE s7 x9) fun s10=>some s10 else none else none
def qhP:Option (Int×Int×Int) :=
 some (0,0,3)
def qeh (gx2:Int) (x2:Int) (gx1:Int) (go1:Int→Int→Option (Int×Int×Int)):Option (Int×Int×Int) :=
 qb (i64 (7*gx2)) fun x3=>qb (qio .u64 (IntKind.wrap .u64 (Go.bits .and .u8 x2 127)) x3) fun x4=>if x2 < 128 then if x2=0 then if 0 < gx2 then some (0,0,4) else qb (i64 (gx2+1)) fun x8=>some (Go.bits .or .u64 gx1 x4,x8,0) else qb (i64 (gx2+1)) fun x9=>some (Go.bits .or .u64 gx1 x4,x9,0) else qb (i64 (gx2+1)) fun x10=>go1 (Go.bits .or .u64 gx1 x4) x10
def qhO (go1:Int→Int→Option (Int×Int×Int)) (a0:(List UInt8)) (gx1:Int) (gx2:Int):Option (Int×Int×Int) :=
 if gx2 < (a0.length:Int) then qb (qeE a0 gx2) fun x2=>if gx2=9 then if 1 < x2 then some (0,0,2) else qeh gx2 x2 gx1 go1 else qeh gx2 x2 gx1 go1 else qhP
def yl (a0:(List UInt8)):Nat→Int→Int→Option (Int×Int×Int)
 | 0,_,_=>none
 | n+1,gx1,gx2=>qhO (yl a0 n) a0 gx1 gx2
def qng (a0:(List UInt8)):Option (Int×Int×Int) :=
 yl a0 big 0 0
def M71 (a0:(List UInt8)):Option (Int×Int×Int) :=
 z7 (qng a0) fun x1 x2 x3=>if x3≠0 then some (0,0,x3) else qb (qbJ .u64 x1 1) fun x6=>if (Go.bits .and .u64 x1 1)=1 then some (IntKind.wrap .i64 (qnA .u64 x6),x2,0) else some (IntKind.wrap .i64 x6,x2,0)
def qdZ (gx1:Int) (gl3:(List Int)):Option (List UInt8) :=
 qb (app gl3 ([IntKind.wrap .u8 gx1])) fun l3=>some (zf l3)
def qco (go1:Int→(List Int)→Option (List UInt8)) (gx4:Int) (gl6:(List Int)):Option (List UInt8) :=
 if 128≤gx4 then qb (app gl6 ([Go.bits .or .u8 (IntKind.wrap .u8 gx4) 128])) fun l7=>qb (qbJ .u64 gx4 7) fun x8=>go1 x8 l7 else qdZ gx4 gl6
def kP:Nat→Int→(List Int)→Option (List UInt8)
 | 0,_,_=>none
 | n+1,gx4,gl6=>qco (kP n) gx4 gl6
def qlI (a0:Int):Option (List UInt8) :=
 kP big a0 []
def M89 (a0:Int):Option (List UInt8) :=
 qb (qio .u64 (IntKind.wrap .u64 a0) 1) fun x1=>if a0 < 0 then qb (qlI (qnA .u64 x1)) fun s3=>some s3 else qb (qlI x1) fun s5=>some s5
def qdW (gx1:Int) (gx2:Int):Option Int :=
 qb (qio .u32 gx2 16) fun x1=>some (Go.bits .or .u32 x1 gx1)
def qcn (go1:Int→Int→Int→Option Int) (a0:(List UInt8)) (gx3:Int) (gx4:Int) (gx5:Int):Option Int :=
 if gx5 < (a0.length:Int) then qb (qeE a0 gx5) fun x3=>qb (qlV (IntKind.wrap .u32 (gx3+(IntKind.wrap .u32 x3))) 65521) fun x4=>qb (qlV (IntKind.wrap .u32 (gx4+x4)) 65521) fun x5=>qb (i64 (gx5+1)) fun x6=>go1 x4 x5 x6 else qdW gx3 gx4
def kO (a0:(List UInt8)):Nat→Int→Int→Int→Option Int
 | 0,_,_,_=>none
 | n+1,gx3,gx4,gx5=>qcn (kO a0 n) a0 gx3 gx4 gx5
def qnE (a0:(List UInt8)):Option Int :=
 kO a0 big 1 0 0
def qjo (a0:(List UInt8)):Option ((List UInt8)×Int) :=
 if 4096 < (a0.length:Int) then some ([],2) else qb (qnE a0) fun x2=>qb (qbJ .u32 x2 24) fun x4=>qb (qbJ .u32 x2 16) fun x5=>qb (qbJ .u32 x2 8) fun x6=>qb (yM a0 (zf ([IntKind.wrap .u8 x4,IntKind.wrap .u8 x5,IntKind.wrap .u8 x6,IntKind.wrap .u8 x2]))) fun s8=>some (s8,0)
def qnH (a0:Int):Option (List UInt8) :=
 qb (M89 a0) fun s1=>qB (qjo s1) fun s3 x4=>qb (yM ([3]) s3) fun s6=>some s6
def qhb (x5:Int) (s9:(List UInt8)) (a0:(List UInt8)) (gb1:Bool):Option (Int×Int) :=
 if gb1=true then some (0,4) else if 1000000 < x5 then some (0,4) else qb (i64 (64 - (s9.length:Int))) fun x12=>qb (xA ([0]) x12) fun s13=>qb (yM s9 s13) fun s15=>if s15≠a0 then some (0,4) else some (x5,0)
def M68 (a0:(List UInt8)):Option (Int×Int) :=
 qb (qoI a0 ([0])) fun s1=>if s1=[] then some (0,0) else qb (cut a0 1 a0.length) fun s4=>z7 (M71 s4) fun x5 x6 x7=>qb (qnH x5) fun s9=>if x7≠0 then qhb x5 s9 a0 true else if x5 < 0 then qhb x5 s9 a0 true else qhb x5 s9 a0 false
def qnG (a0:(List UInt8)) (a1:Int):Option (Int×(List UInt8)×Bool) :=
 qb (cut a0 0 1) fun s1=>if s1≠([1]) then some (0,[],false) else qb (cut a0 1 a0.length) fun s3=>z7 (M71 s3) fun x4 x5 x6=>if x6≠0 then some (0,[],false) else qb (i64 (1+x5)) fun x9=>qb (cut a0 x9 a0.length) fun s10=>z7 (M71 s10) fun x11 x12 x13=>qb (i64 (1+x5)) fun x15=>qb (i64 (x15+x12)) fun x16=>qb (cut a0 x16 a0.length) fun s17=>if x13=0 then some (x4,s17,decide (x11=a1)) else some (x4,s17,false)
def ql6 (a0:(List UInt8)) (a1:Int) (a2:Int):Option (List UInt8) :=
 qb (M89 a1) fun s1=>qb (yM a0 s1) fun s3=>qb (M89 a2) fun s4=>qb (yM s3 s4) fun s6=>some s6
def qoF (a0:(List UInt8)) (a1:(List UInt8)):Option Bool :=
 if (a1.length:Int)≤(a0.length:Int) then qb (cut a0 0 (a1.length:Int)) fun s2=>some (decide (s2=a1)) else some false
def M74 (a0:(List UInt8)) (a1:(List UInt8)):Option Bool :=
 qb (qoF a0 a1) fun b1=>some b1
def qoH (a0:(List UInt8)):Option ((List UInt8)×Int) :=
 qb (i64 ((a0.length:Int) - 4)) fun x1=>if x1 < 0 then some ([],3) else if 4096 < x1 then some ([],2) else qb (cut a0 0 x1) fun s4=>qB (qjo s4) fun s5 x6=>if s5≠a0 then some ([],5) else qb (cut a0 0 x1) fun s9=>some (s9,0)
def qly (x35:Int) (x29:Int) (x23:Int) (gs1:(List UInt8)) (gx2:Int):Option (Trecord×Bool) :=
 qb (cut gs1 0 x35) fun s36=>qB (qoH s36) fun s37 x38=>if x38≠0 then some ((⟨0,[],0⟩:Trecord),false) else qb (cut s37 x29 s37.length) fun s41=>some ((⟨x23,s41,gx2⟩:Trecord),true)
def qj3 (go1:(List UInt8)→Int→Option (Trecord×Bool)) (x35:Int) (a1:Int) (A152:(List TLog)) (a0:Int) (A114:(List TDisk)) (s42:(List UInt8)) (x29:Int) (x23:Int) (gs3:(List UInt8)) (gx4:Int):Option (Trecord×Bool) :=
 if (gs3.length:Int) < x35 then qb (i64 (a1+gx4)) fun x45=>qb (idx A152 a0) fun th46=>if th46.size_≤x45 then some ((⟨0,[],0⟩:Trecord),false) else qb (i64 (th46.from_+a1)) fun x63=>qb (i64 (x63+gx4)) fun x64=>qB (M67 th46.d_ x64 A114) fun s65 x66=>if x66≠0 then some ((⟨0,[],0⟩:Trecord),false) else qb (M74 s65 s42) fun b70=>if b70=true then qb (cut s65 (s42.length:Int) s65.length) fun s72=>qb (yM gs3 s72) fun s73=>qb (i64 (gx4+1)) fun x74=>go1 s73 x74 else some ((⟨0,[],0⟩:Trecord),false) else qly x35 x29 x23 gs3 gx4
def qeJ (x35:Int) (a1:Int) (A152:(List TLog)) (a0:Int) (A114:(List TDisk)) (s42:(List UInt8)) (x29:Int) (x23:Int):Nat→(List UInt8)→Int→Option (Trecord×Bool)
 | 0,_,_=>none
 | n+1,gs3,gx4=>qj3 (qeJ x35 a1 A152 a0 A114 s42 x29 x23 n) x35 a1 A152 a0 A114 s42 x29 x23 gs3 gx4
def M69 (a0:Int) (a1:Int) (a2:Int) (A114:(List TDisk)) (A152:(List TLog)):Option (Trecord×Bool) :=
 qb (idx A152 a0) fun th2=>if th2.size_≤a1 then some ((⟨0,[],0⟩:Trecord),false) else qb (i64 (th2.from_+a1)) fun x17=>qB (M67 th2.d_ x17 A114) fun s18 x19=>if x19≠0 then some ((⟨0,[],0⟩:Trecord),false) else z7 (qnG s18 a2) fun x23 s24 b25=>if b25=true then z7 (qng s24) fun x28 x29 x30=>if x30≠0 then some ((⟨0,[],0⟩:Trecord),false) else if 300 < x28 then some ((⟨0,[],0⟩:Trecord),false) else qb (i64 (x29+(IntKind.wrap .i64 x28))) fun x34=>qb (i64 (x34+4)) fun x35=>qb (ql6 ([2]) x23 a2) fun s42=>qeJ x35 a1 A152 a0 A114 s42 x29 x23 big s24 1 else some ((⟨0,[],0⟩:Trecord),false)
def qkh (a0:Int) (A114:(List TDisk)):Option ((List TDisk)×Int) :=
 qb (idx A114 a0) fun th1=>if th1.left_=0 then some (A114,13) else if 0 < th1.left_ then qb (i64 (th1.left_ - 1)) fun x4=>qb (upd A114 a0 (⟨th1.safe_,th1.seen_,th1.late_,x4⟩:TDisk)) fun l5=>some (l5,0) else some (A114,0)
def M91 (a0:Int) (a1:Int) (a2:(List UInt8)) (A114:(List TDisk)):Option ((List TDisk)×Int) :=
 if a1 < 0 then some (A114,1) else qb (idx A114 a0) fun th2=>if (th2.safe_.length:Int)≤a1 then some (A114,1) else if 64 < (a2.length:Int) then some (A114,2) else qB (qkh a0 A114) fun l5 x6=>if x6≠0 then some (l5,x6) else qb (i64 (64 - (a2.length:Int))) fun x10=>qb (xA ([0]) x10) fun s11=>qb (yM a2 s11) fun s13=>qb (idx l5 a0) fun th14=>qb (idx th14.seen_ a1) fun x15=>qb (upd th14.seen_ a1 s13) fun l16=>qb (app th14.late_ ([(⟨a1,s13⟩:Twrite)])) fun l19=>qb (upd l5 a0 (⟨th14.safe_,l16,l19,th14.left_⟩:TDisk)) fun l20=>some (l20,0)
def M92 (a0:Int) (a1:Int) (A152:(List TLog)):Option ((List TLog)×Int) :=
 qb (idx A152 a0) fun th1=>if th1.fell_=true then qb (upd A152 a0 (⟨th1.d_,th1.from_,th1.size_,th1.epoch_,th1.at_,th1.seq_,true⟩:TLog)) fun l3=>some (l3,a1) else qb (upd A152 a0 (⟨th1.d_,th1.from_,th1.size_,th1.epoch_,th1.at_,th1.seq_,decide (a1≠0)⟩:TLog)) fun l5=>some (l5,a1)
def M93 (a0:Int) (A114:(List TDisk)):Option ((List TDisk)×Int) :=
 qB (qkh a0 A114) fun l1 x2=>if x2≠0 then some (l1,x2) else qb (idx l1 a0) fun th6=>qb (upd l1 a0 (⟨(cpy th6.safe_ th6.seen_),th6.seen_,[],th6.left_⟩:TDisk)) fun l9=>some (l9,0)
def M70 (a0:Int) (A114:(List TDisk)) (A152:(List TLog)):Option ((List TDisk)×(List TLog)×Int) :=
 qb (idx A152 a0) fun th1=>if 1000000≤th1.epoch_ then some (A114,A152,8) else qb (i64 (th1.epoch_+1)) fun x31=>qb (qnH x31) fun s32=>qB (M91 th1.d_ th1.from_ s32 A114) fun l34 x35=>if x35≠0 then qB (M92 a0 x35 A152) fun l40 x41=>some (l34,l40,x41) else qb (idx A152 a0) fun th44=>qB (M93 th44.d_ l34) fun l45 x46=>if x46≠0 then qB (M92 a0 x46 A152) fun l50 x51=>some (l45,l50,x51) else qb (idx A152 a0) fun th54=>qb (i64 (th54.epoch_+1)) fun x55=>qb (upd A152 a0 (⟨th54.d_,th54.from_,th54.size_,x55,th54.at_,th54.seq_,th54.fell_⟩:TLog)) fun l56=>some (l45,l56,0)
def qhl (A114:(List TDisk)) (gx2:Int) (gl4:(List (List UInt8))) (gl6:(List TLog)):Option ((List TDisk)×(List TLog)×Int×(List (List UInt8))×Int) :=
 z7 (M70 gx2 A114 gl6) fun l17 l18 x19=>qb (ck (l18.length=gl6.length)) fun _=>if x19≠0 then some (l17,l18,(-1),[],x19) else some (l17,l18,gx2,gl4,0)
def qjc (gl12:(List TLog)) (x26:Int) (gx11:Int) (A114:(List TDisk)) (gl10:(List (List UInt8))) (go1:(List (List UInt8))→Int→(List TLog)→Option ((List TDisk)×(List TLog)×Int×(List (List UInt8))×Int)) (gx16:Int) (gs17:(List UInt8)) (gx18:Int) (gb19:Bool):Option ((List TDisk)×(List TLog)×Int×(List (List UInt8))×Int) :=
 if gb19=true then qb (idx gl12 x26) fun th32=>if gx16 < gx11 then qhl A114 x26 gl10 gl12 else if th32.epoch_ < gx16 then qhl A114 x26 gl10 gl12 else qb (i64 (th32.at_+gx18)) fun x39=>qb (app gl10 ([gs17])) fun l42=>qb (i64 (th32.seq_+1)) fun x43=>qb (upd gl12 x26 (⟨th32.d_,th32.from_,th32.size_,th32.epoch_,x39,x43,th32.fell_⟩:TLog)) fun l44=>go1 l42 gx16 l44 else qb (idx gl12 x26) fun th31=>qhl A114 x26 gl10 gl12
def qkb (go1:(List (List UInt8))→Int→(List TLog)→Option ((List TDisk)×(List TLog)×Int×(List (List UInt8))×Int)) (x26:Int) (A114:(List TDisk)) (gl10:(List (List UInt8))) (gx11:Int) (gl12:(List TLog)):Option ((List TDisk)×(List TLog)×Int×(List (List UInt8))×Int) :=
 qb (idx gl12 x26) fun th46=>qB (M69 x26 th46.at_ th46.seq_ A114 gl12) fun x68 b69=>if b69=true then qjc gl12 x26 gx11 A114 gl10 go1 x68.epoch_ x68.text_ x68.size_ true else qjc gl12 x26 gx11 A114 gl10 go1 x68.epoch_ x68.text_ x68.size_ false
def qeR (x26:Int) (A114:(List TDisk)):Nat→(List (List UInt8))→Int→(List TLog)→Option ((List TDisk)×(List TLog)×Int×(List (List UInt8))×Int)
 | 0,_,_,_=>none
 | n+1,gl10,gx11,gl12=>qkb (qeR x26 A114 n) x26 A114 gl10 gx11 gl12
def qhm (A114:(List TDisk)) (A152:(List TLog)) (a0:Int) (a1:Int) (a2:Int) (gb1:Bool):Option ((List TDisk)×(List TLog)×Int×(List (List UInt8))×Int) :=
 if gb1=true then some (A114,A152,(-1),[],1) else qb (M35 a0 A114) fun x1=>if x1 < a1 then some (A114,A152,(-1),[],1) else qb (M35 a0 A114) fun x4=>qb (i64 (x4 - a1)) fun x6=>if x6 < a2 then some (A114,A152,(-1),[],1) else qB (M67 a0 a1 A114) fun s9 x10=>if x10≠0 then some (A114,A152,(-1),[],x10) else qB (M68 s9) fun x13 x14=>if x14≠0 then some (A114,A152,(-1),[],x14) else qB (qiA A152 (⟨a0,a1,a2,x13,1,0,false⟩:TLog)) fun x26 l27=>qeR x26 A114 big [] 0 l27
def M36 (a0:Int) (a1:Int) (a2:Int) (A114:(List TDisk)) (A152:(List TLog)):Option ((List TDisk)×(List TLog)×Int×(List (List UInt8))×Int) :=
 if a1 < 0 then qhm A114 A152 a0 a1 a2 true else if a2 < 2 then qhm A114 A152 a0 a1 a2 true else qhm A114 A152 a0 a1 a2 false
def qoG (a0:(List UInt8)):Option ((List UInt8)×Int×Int) :=
 z7 (qng a0) fun x1 x2 x3=>if x3≠0 then some ([],0,x3) else if 4096 < x1 then some ([],0,2) else qb (i64 ((a0.length:Int) - x2)) fun x7=>if (IntKind.wrap .u64 x7) < x1 then some ([],0,3) else qb (i64 (x2+(IntKind.wrap .i64 x1))) fun x9=>qb (cut a0 x2 x9) fun s10=>qb (i64 (x2+(IntKind.wrap .i64 x1))) fun x11=>some (s10,x11,0)
def qha (x1:Int) (a0:(List UInt8)) (x2:Int) (gb1:Bool):Option (Int×(List UInt8)×(List UInt8)×Bool) :=
 if gb1=true then some (0,[],[],false) else if 20≤x1 then some (0,[],[],false) else qb (cut a0 x2 a0.length) fun s6=>z7 (qoG s6) fun s7 x8 x9=>if x9≠0 then some (0,[],[],false) else if 20 < (s7.length:Int) then some (0,[],[],false) else qb (i64 (x2+x8)) fun x13=>qb (cut a0 x13 a0.length) fun s14=>some (x1,s7,s14,true)
def M72 (a0:(List UInt8)):Option (Int×(List UInt8)×(List UInt8)×Bool) :=
 z7 (M71 a0) fun x1 x2 x3=>if x3≠0 then qha x1 a0 x2 true else if x1 < 0 then qha x1 a0 x2 true else qha x1 a0 x2 false
def qlC (gx1:Int) (gb2:Bool) (gl3:(List (List UInt8))):Option (qi×Bool) :=
 qb (zi 20 gl3) fun _=>some ((⟨gx1,gb2,gl3⟩:qi),true)
def qbg (gx4:Int) (go1:Int→Int→Bool→(List (List UInt8))→Option (qi×Bool)) (gx8:Int) (gb9:Bool) (gl10:(List (List UInt8))):Option (qi×Bool) :=
 qb (i64 (gx4+1)) fun x6=>go1 x6 gx8 gb9 gl10
def qj9 (go2:(List UInt8)→(List (List UInt8))→Option (qi×Bool)) (gx5:Int) (gb6:Bool) (gx4:Int) (go1:Int→Int→Bool→(List (List UInt8))→Option (qi×Bool)) (gs15:(List UInt8)) (gl16:(List (List UInt8))):Option (qi×Bool) :=
 if gs15≠[] then qci (M72 gs15) fun x14 s15 s16 b17=>if b17=true then qb (zD 20 gl16 x14) fun x20=>qb (upd gl16 x14 s15) fun l21=>go2 s16 l21 else qb (zi 20 gl16) fun _=>some ((⟨gx5,gb6,gl16⟩:qi),false) else qbg gx4 go1 gx5 gb6 gl16
def qeP (gx5:Int) (gb6:Bool) (gx4:Int) (go1:Int→Int→Bool→(List (List UInt8))→Option (qi×Bool)):Nat→(List UInt8)→(List (List UInt8))→Option (qi×Bool)
 | 0,_,_=>none
 | n+1,gs15,gl16=>qj9 (qeP gx5 gb6 gx4 go1 n) gx5 gb6 gx4 go1 gs15 gl16
def qhi (gx5:Int) (gb6:Bool) (gx4:Int) (go1:Int→Int→Bool→(List (List UInt8))→Option (qi×Bool)) (s11:(List UInt8)) (gl7:(List (List UInt8))) (gb14:Bool):Option (qi×Bool) :=
 if gb14=true then qeP gx5 gb6 gx4 go1 big s11 gl7 else qb (zi 20 gl7) fun _=>some ((⟨gx5,gb6,gl7⟩:qi),false)
def qj8 (go3:(List UInt8)→(List (List UInt8))→Option (qi×Bool)) (gx5:Int) (gb6:Bool) (gx4:Int) (go1:Int→Int→Bool→(List (List UInt8))→Option (qi×Bool)) (gs17:(List UInt8)) (gl18:(List (List UInt8))):Option (qi×Bool) :=
 if gs17≠[] then qci (M72 gs17) fun x26 s27 s28 b29=>if b29=true then qb (zD 20 gl18 x26) fun x32=>qb (upd gl18 x26 s27) fun l33=>go3 s28 l33 else qb (zi 20 gl18) fun _=>some ((⟨gx5,gb6,gl18⟩:qi),false) else qbg gx4 go1 gx5 gb6 gl18
def qeO (gx5:Int) (gb6:Bool) (gx4:Int) (go1:Int→Int→Bool→(List (List UInt8))→Option (qi×Bool)):Nat→(List UInt8)→(List (List UInt8))→Option (qi×Bool)
 | 0,_,_=>none
 | n+1,gs17,gl18=>qj8 (qeO gx5 gb6 gx4 go1 n) gx5 gb6 gx4 go1 gs17 gl18
def qhj (gx5:Int) (gb6:Bool) (gx4:Int) (go1:Int→Int→Bool→(List (List UInt8))→Option (qi×Bool)) (s11:(List UInt8)) (gl7:(List (List UInt8))) (s10:(List UInt8)) (gb13:Bool):Option (qi×Bool) :=
 if gb13=true then qeO gx5 gb6 gx4 go1 big s11 gl7 else if s10=([67]) then if gb6=true then qhi gx5 gb6 gx4 go1 s11 gl7 true else qhi gx5 gb6 gx4 go1 s11 gl7 false else qhi gx5 gb6 gx4 go1 s11 gl7 false
def qj7 (go4:(List UInt8)→(List (List UInt8))→Option (qi×Bool)) (gx5:Int) (gb6:Bool) (gx4:Int) (go1:Int→Int→Bool→(List (List UInt8))→Option (qi×Bool)) (gs21:(List UInt8)) (gl22:(List (List UInt8))):Option (qi×Bool) :=
 if gs21≠[] then qci (M72 gs21) fun x40 s41 s42 b43=>if b43=true then qb (zD 20 gl22 x40) fun x46=>qb (upd gl22 x40 s41) fun l47=>go4 s42 l47 else qb (zi 20 gl22) fun _=>some ((⟨gx5,gb6,gl22⟩:qi),false) else qbg gx4 go1 gx5 gb6 gl22
def qeN (gx5:Int) (gb6:Bool) (gx4:Int) (go1:Int→Int→Bool→(List (List UInt8))→Option (qi×Bool)):Nat→(List UInt8)→(List (List UInt8))→Option (qi×Bool)
 | 0,_,_=>none
 | n+1,gs21,gl22=>qj7 (qeN gx5 gb6 gx4 go1 n) gx5 gb6 gx4 go1 gs21 gl22
def qhg (gx5:Int) (gb6:Bool) (gx4:Int) (go1:Int→Int→Bool→(List (List UInt8))→Option (qi×Bool)) (s11:(List UInt8)) (gl7:(List (List UInt8))) (gb20:Bool):Option (qi×Bool) :=
 if gb20=true then qeN gx5 gb6 gx4 go1 big s11 gl7 else qb (zi 20 gl7) fun _=>some ((⟨gx5,gb6,gl7⟩:qi),false)
def qj6 (go5:(List UInt8)→(List (List UInt8))→Option (qi×Bool)) (gx5:Int) (gb6:Bool) (gx4:Int) (go1:Int→Int→Bool→(List (List UInt8))→Option (qi×Bool)) (gs23:(List UInt8)) (gl24:(List (List UInt8))):Option (qi×Bool) :=
 if gs23≠[] then qci (M72 gs23) fun x52 s53 s54 b55=>if b55=true then qb (zD 20 gl24 x52) fun x58=>qb (upd gl24 x52 s53) fun l59=>go5 s54 l59 else qb (zi 20 gl24) fun _=>some ((⟨gx5,gb6,gl24⟩:qi),false) else qbg gx4 go1 gx5 gb6 gl24
def qeM (gx5:Int) (gb6:Bool) (gx4:Int) (go1:Int→Int→Bool→(List (List UInt8))→Option (qi×Bool)):Nat→(List UInt8)→(List (List UInt8))→Option (qi×Bool)
 | 0,_,_=>none
 | n+1,gs23,gl24=>qj6 (qeM gx5 gb6 gx4 go1 n) gx5 gb6 gx4 go1 gs23 gl24
def qhh (gx5:Int) (gb6:Bool) (gx4:Int) (go1:Int→Int→Bool→(List (List UInt8))→Option (qi×Bool)) (s11:(List UInt8)) (gl7:(List (List UInt8))) (s10:(List UInt8)) (gb19:Bool):Option (qi×Bool) :=
 if gb19=true then qeM gx5 gb6 gx4 go1 big s11 gl7 else if s10=([67]) then if gb6=true then qhg gx5 gb6 gx4 go1 s11 gl7 true else qhg gx5 gb6 gx4 go1 s11 gl7 false else qhg gx5 gb6 gx4 go1 s11 gl7 false
def qhk (s11:(List UInt8)) (gx4:Int) (go1:Int→Int→Bool→(List (List UInt8))→Option (qi×Bool)) (gx5:Int) (gl7:(List (List UInt8))) (s10:(List UInt8)) (gb6:Bool) (gb12:Bool):Option (qi×Bool) :=
 if gb12=true then if s11=[] then qbg gx4 go1 gx5 true gl7 else if s10=([83]) then if gb6=true then qhh gx5 gb6 gx4 go1 s11 gl7 s10 false else qhh gx5 gb6 gx4 go1 s11 gl7 s10 true else qhh gx5 gb6 gx4 go1 s11 gl7 s10 false else if s10=([83]) then if gb6=true then qhj gx5 gb6 gx4 go1 s11 gl7 s10 false else qhj gx5 gb6 gx4 go1 s11 gl7 s10 true else qhj gx5 gb6 gx4 go1 s11 gl7 s10 false
def qhf (gl7:(List (List UInt8))) (gx5:Int) (gb6:Bool) (x66:Int) (s11:(List UInt8)) (gx4:Int) (go1:Int→Int→Bool→(List (List UInt8))→Option (qi×Bool)) (x65:Int) (gb25:Bool):Option (qi×Bool) :=
 if gb25=true then qb (zi 20 gl7) fun _=>some ((⟨gx5,gb6,gl7⟩:qi),false) else if x66≠(s11.length:Int) then qb (zi 20 gl7) fun _=>some ((⟨gx5,gb6,gl7⟩:qi),false) else qbg gx4 go1 x65 false gl7
def qjb (s11:(List UInt8)) (gl7:(List (List UInt8))) (gx5:Int) (gb6:Bool) (gx4:Int) (go1:Int→Int→Bool→(List (List UInt8))→Option (qi×Bool)) (s10:(List UInt8)) (gb11:Bool):Option (qi×Bool) :=
 if gb11=true then z7 (M71 s11) fun x65 x66 x67=>if x67≠0 then qhf gl7 gx5 gb6 x66 s11 gx4 go1 x65 true else if x65 < 1 then qhf gl7 gx5 gb6 x66 s11 gx4 go1 x65 true else qhf gl7 gx5 gb6 x66 s11 gx4 go1 x65 false else if s10=([68]) then if gb6=true then qhk s11 gx4 go1 gx5 gl7 s10 gb6 false else qhk s11 gx4 go1 gx5 gl7 s10 gb6 true else qhk s11 gx4 go1 gx5 gl7 s10 gb6 false
def qbh (s11:(List UInt8)) (gl7:(List (List UInt8))) (gx5:Int) (gb6:Bool) (gx4:Int) (go1:Int→Int→Bool→(List (List UInt8))→Option (qi×Bool)) (s10:(List UInt8)) (gb26:Bool):Option (qi×Bool) :=
 if gb26=true then qjb s11 gl7 gx5 gb6 gx4 go1 s10 true else qjb s11 gl7 gx5 gb6 gx4 go1 s10 false
def qka (go1:Int→Int→Bool→(List (List UInt8))→Option (qi×Bool)) (a0:(List (List UInt8))) (gx4:Int) (gx5:Int) (gb6:Bool) (gl7:(List (List UInt8))):Option (qi×Bool) :=
 if gx4 < (a0.length:Int) then qb (idx a0 gx4) fun x7=>if x7=[] then qb (zi 20 gl7) fun _=>some ((⟨gx5,gb6,gl7⟩:qi),false) else qb (cut x7 0 1) fun s10=>qb (cut x7 1 x7.length) fun s11=>if s10=([72]) then if gx4=0 then qbh s11 gl7 gx5 gb6 gx4 go1 s10 true else qbh s11 gl7 gx5 gb6 gx4 go1 s10 false else qbh s11 gl7 gx5 gb6 gx4 go1 s10 false else qlC gx5 gb6 gl7
def qeQ (a0:(List (List UInt8))):Nat→Int→Int→Bool→(List (List UInt8))→Option (qi×Bool)
 | 0,_,_,_,_=>none
 | n+1,gx4,gx5,gb6,gl7=>qka (qeQ a0 n) a0 gx4 gx5 gb6 gl7
def M37 (a0:(List (List UInt8))):Option (qi×Bool) :=
 qb (zi 20 (List.replicate 20 ([]:(List UInt8)))) fun _=>qeQ a0 big 0 0 true (List.replicate 20 ([]:(List UInt8)))
def qlG (l52:(List TDisk)) (l53:(List TLog)) (gx2:Int) (gl4:(List TStore)):Option ((List TStore)×(List TDisk)×(List TLog)×Int×Int) :=
 some (gl4,l52,l53,gx2,0)
def qkf (go1:Int→(List TStore)→Option ((List TStore)×(List TDisk)×(List TLog)×Int×Int)) (x19:qi) (x97:Int) (l52:(List TDisk)) (l53:(List TLog)) (gx7:Int) (gl8:(List TStore)):Option ((List TStore)×(List TDisk)×(List TLog)×Int×Int) :=
 if gx7 < 20 then qb (zD 20 x19.values_ gx7) fun x103=>qb (idx gl8 x97) fun th105=>qb (zD 20 th105.items_ gx7) fun x106=>qb (zi 2 th105.logs_) fun _=>qb (upd th105.items_ gx7 ([(⟨0,x103⟩:TVersion)])) fun l108=>qb (i64 (gx7+1)) fun x110=>qb (upd gl8 x97 (⟨th105.logs_,th105.half_,th105.gen_,th105.down_,th105.now_,l108,th105.active_,th105.over_⟩:TStore)) fun l112=>go1 x110 l112 else qlG l52 l53 x97 gl8
def qe6 (x19:qi) (x97:Int) (l52:(List TDisk)) (l53:(List TLog)):Nat→Int→(List TStore)→Option ((List TStore)×(List TDisk)×(List TLog)×Int×Int)
 | 0,_,_=>none
 | n+1,gx7,gl8=>qkf (qe6 x19 x97 l52 l53 n) x19 x97 l52 l53 gx7 gl8
def qlF (l52:(List TDisk)) (l53:(List TLog)) (gx11:Int) (gl13:(List TStore)):Option ((List TStore)×(List TDisk)×(List TLog)×Int×Int) :=
 some (gl13,l52,l53,gx11,0)
def qke (go2:Int→(List TStore)→Option ((List TStore)×(List TDisk)×(List TLog)×Int×Int)) (x63:qi) (x117:Int) (l52:(List TDisk)) (l53:(List TLog)) (gx16:Int) (gl17:(List TStore)):Option ((List TStore)×(List TDisk)×(List TLog)×Int×Int) :=
 if gx16 < 20 then qb (zD 20 x63.values_ gx16) fun x123=>qb (idx gl17 x117) fun th125=>qb (zD 20 th125.items_ gx16) fun x126=>qb (zi 2 th125.logs_) fun _=>qb (upd th125.items_ gx16 ([(⟨0,x123⟩:TVersion)])) fun l128=>qb (i64 (gx16+1)) fun x130=>qb (upd gl17 x117 (⟨th125.logs_,th125.half_,th125.gen_,th125.down_,th125.now_,l128,th125.active_,th125.over_⟩:TStore)) fun l132=>go2 x130 l132 else qlF l52 l53 x117 gl17
def qe5 (x63:qi) (x117:Int) (l52:(List TDisk)) (l53:(List TLog)):Nat→Int→(List TStore)→Option ((List TStore)×(List TDisk)×(List TLog)×Int×Int)
 | 0,_,_=>none
 | n+1,gx16,gl17=>qke (qe5 x63 x117 l52 l53 n) x63 x117 l52 l53 gx16 gl17
def qe7 (l90:(List Int)) (x63:qi) (A69:(List TStore)) (l52:(List TDisk)) (l53:(List TLog)) (x19:qi) (gb1:Bool):Option ((List TStore)×(List TDisk)×(List TLog)×Int×Int) :=
 if gb1=true then qb (zi 2 l90) fun _=>if x63.whole_=true then qB (qiA A69 (⟨l90,1,x63.gen_,false,0,(List.replicate 20 ([]:(List TVersion))),[],[]⟩:TStore)) fun x117 l118=>qe5 x63 x117 l52 l53 big 0 l118 else some (A69,l52,l53,(-1),4) else qb (zi 2 l90) fun _=>if x19.whole_=true then qB (qiA A69 (⟨l90,0,x19.gen_,false,0,(List.replicate 20 ([]:(List TVersion))),[],[]⟩:TStore)) fun x97 l98=>qe6 x19 x97 l52 l53 big 0 l98 else some (A69,l52,l53,(-1),4)
def M14 (a0:Int) (A69:(List TStore)) (A114:(List TDisk)) (A152:(List TLog)):Option ((List TStore)×(List TDisk)×(List TLog)×Int×Int) :=
 qb (M35 a0 A114) fun x1=>qb (qny .i64 x1 2) fun x3=>qb (i64 (0*x3)) fun x6=>qb (ck ((∀ x∈A69,TStore.ok152 A152.length x)∧(qlr (List.replicate 2 ((-1):Int)) A152.length=true))) fun _=>yN (M36 a0 x6 x3 A114 A152) fun l8 l9 x10 l11 x13=>if x13≠0 then some (A69,l8,l9,(-1),x13) else qB (M37 l11) fun x19 b20=>if b20=true then qb (zi 20 (List.replicate 20 ([]:(List UInt8)))) fun _=>qb (zi 20 x19.values_) fun _=>qb (zD 2 (List.replicate 2 ((-1):Int)) 0) fun x46=>qb (upd (List.replicate 2 ((-1):Int)) 0 x10) fun l47=>qb (i64 (1*x3)) fun x50=>qb (ck ((∀ x∈A69,TStore.ok152 l9.length x)∧(qlr l47 l9.length=true))) fun _=>yN (M36 a0 x50 x3 l8 l9) fun l52 l53 x54 l55 x57=>if x57≠0 then some (A69,l52,l53,(-1),x57) else qB (M37 l55) fun x63 b64=>if b64=true then qb (zi 20 x63.values_) fun _=>qb (zD 2 l47 1) fun x89=>qb (upd l47 1 x54) fun l90=>if x63.whole_=true then if x19.gen_ < x63.gen_ then qe7 l90 x63 A69 l52 l53 x19 true else if x19.whole_=true then qe7 l90 x63 A69 l52 l53 x19 false else qe7 l90 x63 A69 l52 l53 x19 true else qe7 l90 x63 A69 l52 l53 x19 false else qb (zi 20 x63.values_) fun _=>some (A69,l52,l53,(-1),4) else qb (zi 20 (List.replicate 20 ([]:(List UInt8)))) fun _=>qb (zi 20 x19.values_) fun _=>some (A69,l8,l9,(-1),4)
def M5 (a0:Int) (A69:(List TStore)) (A114:(List TDisk)) (A152:(List TLog)):Option ((List TStore)×(List TDisk)×(List TLog)×Int×Int×Bool) :=
 qb (ck (∀ x∈A152,TLog.ok114 A114.length x)) fun _=>z7 (M16 a0 A114) fun l2 x3 x4=>if x4≠0 then some (A69,l2,A152,(-1),(-1),false) else if x3 < 0 then some (A69,l2,A152,(-1),(-1),false) else yN (M14 x3 A69 l2 A152) fun l10 l11 l12 x13 x14=>qb (ck (l11.length=l2.length)) fun _=>if x14=0 then some (l10,l11,l12,x3,x13,decide (0≤x13)) else some (l10,l11,l12,x3,x13,false)
def qe2 (th1:TStore) (gx1:Int):Option Int :=
 if gx1 < 0 then some (-1) else qb (idx th1.active_ gx1) fun x6=>some x6
def qjn (th1:TStore):Option Int :=
 qe2 th1 (-1)
def qjm (th1:TStore) (gx2:Int) (go1:Int→Option Int) (gb3:Bool):Option Int :=
 if gb3=true then qe2 th1 gx2 else qb (i64 (gx2+1)) fun x9=>go1 x9
def qdV (go1:Int→Option Int) (th1:TStore) (A73:(List Ttx)) (a1:Int) (gx2:Int):Option Int :=
 if gx2 < (th1.active_.length:Int) then qb (idx th1.active_ gx2) fun x8=>qb (idx A73 x8) fun th10=>qjm th1 gx2 go1 (decide (th10.id_=a1)) else qjn th1
def qag (th1:TStore) (A73:(List Ttx)) (a1:Int):Nat→Int→Option Int
 | 0,_=>none
 | n+1,gx2=>qdV (qag th1 A73 a1 n) th1 A73 a1 gx2
def M17 (a0:Int) (a1:Int) (A69:(List TStore)) (A73:(List Ttx)):Option Int :=
 qb (idx A69 a0) fun th1=>qb (zi 2 th1.logs_) fun _=>qb (zi 20 th1.items_) fun _=>qag th1 A73 a1 big 0
def qj2 (A69:(List TStore)) (A73:(List Ttx)) (a0:Int) (a1:Int) (gb1:Bool):Option ((List TStore)×(List Ttx)×Int) :=
 if gb1=true then some (A69,A73,1) else qb (M17 a0 a1 A69 A73) fun x4=>qb (idx A69 a0) fun th6=>if 0≤x4 then some (A69,A73,7) else qb (zi 2 th6.logs_) fun _=>qb (zi 20 th6.items_) fun _=>qb (ck ((∀ x∈A69,TStore.ok73 A73.length x)∧(∀ k∈th6.active_,k < A73.length)∧(∀ k∈th6.over_,k < A73.length))) fun _=>qB (qiA A73 (⟨a1,th6.now_,0,[],[],(List.replicate 20 ([]:(List UInt8))),false,false⟩:Ttx)) fun x68 l69=>qb (app th6.active_ ([x68])) fun l75=>qb (upd A69 a0 (⟨th6.logs_,th6.half_,th6.gen_,th6.down_,th6.now_,th6.items_,l75,th6.over_⟩:TStore)) fun l78=>some (l78,l69,0)
def M6 (a0:Int) (a1:Int) (A69:(List TStore)) (A73:(List Ttx)):Option ((List TStore)×(List Ttx)×Int) :=
 qb (idx A69 a0) fun th1=>qb (zi 2 th1.logs_) fun _=>if th1.down_=true then some (A69,A73,13) else if a1 < 0 then qj2 A69 A73 a0 a1 true else if 12≤a1 then qj2 A69 A73 a0 a1 true else qj2 A69 A73 a0 a1 false
def qbn (a2:Int) (a0:Int) (a1:Int) (A69:(List TStore)) (A73:(List Ttx)) (gb1:Bool):Option (Int×Int) :=
 if gb1=true then some ((-1),1) else if a2 < 0 then some ((-1),1) else if 20≤a2 then some ((-1),1) else qb (M17 a0 a1 A69 A73) fun x6=>qb (idx A69 a0) fun th8=>if 0≤x6 then some (x6,0) else some ((-1),6)
def M18 (a0:Int) (a1:Int) (a2:Int) (A69:(List TStore)) (A73:(List Ttx)):Option (Int×Int) :=
 qb (idx A69 a0) fun th1=>qb (zi 2 th1.logs_) fun _=>if th1.down_=true then some ((-1),13) else if a1 < 0 then qbn a2 a0 a1 A69 A73 true else if 12≤a1 then qbn a2 a0 a1 A69 A73 true else qbn a2 a0 a1 A69 A73 false
def qeL:Option Int :=
 some (-1)
def kK (go1:Int→Option Int) (a0:(List Int)) (a1:Int) (gx1:Int):Option Int :=
 if gx1 < (a0.length:Int) then qb (idx a0 gx1) fun x2=>if a1=x2 then some gx1 else qb (i64 (gx1+1)) fun x4=>go1 x4 else qeL
def jw (a0:(List Int)) (a1:Int):Nat→Int→Option Int
 | 0,_=>none
 | n+1,gx1=>kK (jw a0 a1 n) a0 a1 gx1
def M41 (a0:(List Int)) (a1:Int):Option Int :=
 jw a0 a1 big 0
def M19 (a0:(List Int)) (a1:Int):Option Bool :=
 qb (M41 a0 a1) fun x1=>some (decide (0≤x1))
def M9 (a0:Int) (a1:Int) (a2:Int) (a3:(List UInt8)) (A69:(List TStore)) (A73:(List Ttx)):Option ((List Ttx)×Int) :=
 qb (idx A69 a0) fun th1=>qB (M18 a0 a1 a2 A69 A73) fun x2 x3=>qb (idx A69 a0) fun th5=>if x3≠0 then some (A73,x3) else if 20 < (a3.length:Int) then some (A73,2) else qb (idx A73 x2) fun th8=>qb (M19 th8.writes_ a2) fun b9=>if b9=true then qb (zD 20 th8.texts_ a2) fun x18=>qb (upd th8.texts_ a2 a3) fun l19=>qb (upd A73 x2 (⟨th8.id_,th8.from_,th8.at_,th8.reads_,th8.writes_,l19,th8.in_,th8.out_⟩:Ttx)) fun l21=>some (l21,0) else qb (app th8.writes_ ([a2])) fun l13=>qb (zD 20 th8.texts_ a2) fun x14=>qb (upd th8.texts_ a2 a3) fun l15=>qb (upd A73 x2 (⟨th8.id_,th8.from_,th8.at_,th8.reads_,l13,l15,th8.in_,th8.out_⟩:Ttx)) fun l17=>some (l17,0)
def qlA (gb1:Bool):Option Bool :=
 some gb1
def qi9 (gx2:Int):Option Bool :=
 qlA (decide (0≤gx2))
def qlz:Option Bool :=
 qi9 (-1)
def qi8 (gx3:Int) (go1:Int→Option Bool) (gb4:Bool):Option Bool :=
 if gb4=true then qi9 gx3 else qb (i64 (gx3+1)) fun x4=>go1 x4
def qdm (go1:Int→Option Bool) (a0:(List Int)) (a1:(List Int)) (gx3:Int):Option Bool :=
 if gx3 < (a0.length:Int) then qb (idx a0 gx3) fun x3=>qb (M19 a1 x3) fun b5=>qi8 gx3 go1 b5 else qlz
def yW (a0:(List Int)) (a1:(List Int)):Nat→Int→Option Bool
 | 0,_=>none
 | n+1,gx3=>qdm (yW a0 a1 n) a0 a1 gx3
def M43 (a0:(List Int)) (a1:(List Int)):Option Bool :=
 yW a0 a1 big 0
def qjl (gl2:(List Int)) (gl4:(List Int)) (gb5:Bool) (gb6:Bool):Option ((List Int)×(List Int)×Bool) :=
 if gb5=true then some (gl2,gl4,(!gb6)) else some (gl2,gl4,true)
def qeZ (gx13:Int) (go1:(List Int)→(List Int)→Bool→Bool→Int→Option ((List Int)×(List Int)×Bool)) (gl17:(List Int)) (gl19:(List Int)) (gb21:Bool):Option ((List Int)×(List Int)×Bool) :=
 if gb21=true then qb (i64 (gx13+1)) fun x13=>go1 gl17 gl19 true false x13 else qb (i64 (gx13+1)) fun x12=>go1 gl17 gl19 false false x12
def qeY (gx13:Int) (go1:(List Int)→(List Int)→Bool→Bool→Int→Option ((List Int)×(List Int)×Bool)) (gl17:(List Int)) (gl19:(List Int)) (gb22:Bool):Option ((List Int)×(List Int)×Bool) :=
 if gb22=true then qb (i64 (gx13+1)) fun x17=>go1 gl17 gl19 true true x17 else qb (i64 (gx13+1)) fun x16=>go1 gl17 gl19 false true x16
def qe0 (gb11:Bool) (gx13:Int) (go1:(List Int)→(List Int)→Bool→Bool→Int→Option ((List Int)×(List Int)×Bool)) (gl17:(List Int)) (gl19:(List Int)) (gb15:Bool) (gb20:Bool):Option ((List Int)×(List Int)×Bool) :=
 if gb20=true then if gb11=true then qeY gx13 go1 gl17 gl19 true else if gb15=true then qeY gx13 go1 gl17 gl19 true else qeY gx13 go1 gl17 gl19 false else if gb11=true then qeZ gx13 go1 gl17 gl19 true else if gb15=true then qeZ gx13 go1 gl17 gl19 true else qeZ gx13 go1 gl17 gl19 false
def qe1 (gb12:Bool) (gb11:Bool) (gx13:Int) (go1:(List Int)→(List Int)→Bool→Bool→Int→Option ((List Int)×(List Int)×Bool)) (gl17:(List Int)) (gb15:Bool) (gb14:Bool) (gl19:(List Int)):Option ((List Int)×(List Int)×Bool) :=
 if gb12=true then qe0 gb11 gx13 go1 gl17 gl19 gb15 true else if gb14=true then qe0 gb11 gx13 go1 gl17 gl19 gb15 true else qe0 gb11 gx13 go1 gl17 gl19 gb15 false
def qhB (gb15:Bool) (gl10:(List Int)) (x6:Int) (gb12:Bool) (gb11:Bool) (gx13:Int) (go1:(List Int)→(List Int)→Bool→Bool→Int→Option ((List Int)×(List Int)×Bool)) (gb14:Bool) (gl17:(List Int)):Option ((List Int)×(List Int)×Bool) :=
 if gb15=true then qb (app gl10 ([x6])) fun l25=>qe1 gb12 gb11 gx13 go1 gl17 gb15 gb14 l25 else qe1 gb12 gb11 gx13 go1 gl17 gb15 gb14 gl10
def qhC (gb14:Bool) (gl8:(List Int)) (x6:Int) (gb15:Bool) (gl10:(List Int)) (gb12:Bool) (gb11:Bool) (gx13:Int) (go1:(List Int)→(List Int)→Bool→Bool→Int→Option ((List Int)×(List Int)×Bool)):Option ((List Int)×(List Int)×Bool) :=
 if gb14=true then qb (app gl8 ([x6])) fun l29=>qhB gb15 gl10 x6 gb12 gb11 gx13 go1 gb14 l29 else qhB gb15 gl10 x6 gb12 gb11 gx13 go1 gb14 gl8
def kN (gb14:Bool) (gl8:(List Int)) (x6:Int) (gb15:Bool) (gl10:(List Int)) (gb12:Bool) (gb11:Bool) (gx13:Int) (go1:(List Int)→(List Int)→Bool→Bool→Int→Option ((List Int)×(List Int)×Bool)) (gb24:Bool):Option ((List Int)×(List Int)×Bool) :=
 if gb24=true then some ([],[],false) else qhC gb14 gl8 x6 gb15 gl10 gb12 gb11 gx13 go1
def wb (gb15:Bool) (th31:Ttx) (gb14:Bool) (gl8:(List Int)) (x6:Int) (gl10:(List Int)) (gb12:Bool) (gb11:Bool) (gx13:Int) (go1:(List Int)→(List Int)→Bool→Bool→Int→Option ((List Int)×(List Int)×Bool)) (gb23:Bool):Option ((List Int)×(List Int)×Bool) :=
 if gb23=true then some ([],[],false) else if gb15=true then qb (zi 20 th31.texts_) fun _=>if th31.in_=true then kN gb14 gl8 x6 gb15 gl10 gb12 gb11 gx13 go1 true else kN gb14 gl8 x6 gb15 gl10 gb12 gb11 gx13 go1 false else kN gb14 gl8 x6 gb15 gl10 gb12 gb11 gx13 go1 false
def qbm (A73:(List Ttx)) (a1:Int) (x6:Int) (gl8:(List Int)) (gl10:(List Int)) (gb12:Bool) (gb11:Bool) (gx13:Int) (go1:(List Int)→(List Int)→Bool→Bool→Int→Option ((List Int)×(List Int)×Bool)) (gb14:Bool) (gb15:Bool):Option ((List Int)×(List Int)×Bool) :=
 qb (idx A73 a1) fun th30=>qb (idx A73 x6) fun th31=>qb (M43 th30.writes_ th31.writes_) fun b35=>if b35=true then wb gb15 th31 gb14 gl8 x6 gl10 gb12 gb11 gx13 go1 true else if gb14=true then qb (zi 20 th31.texts_) fun _=>if th31.out_=true then wb gb15 th31 gb14 gl8 x6 gl10 gb12 gb11 gx13 go1 true else if gb15=true then wb gb15 th31 gb14 gl8 x6 gl10 gb12 gb11 gx13 go1 true else wb gb15 th31 gb14 gl8 x6 gl10 gb12 gb11 gx13 go1 false else wb gb15 th31 gb14 gl8 x6 gl10 gb12 gb11 gx13 go1 false
def qdT (go1:(List Int)→(List Int)→Bool→Bool→Int→Option ((List Int)×(List Int)×Bool)) (th1:TStore) (A73:(List Ttx)) (a1:Int) (gl8:(List Int)) (gl10:(List Int)) (gb11:Bool) (gb12:Bool) (gx13:Int):Option ((List Int)×(List Int)×Bool) :=
 if gx13 < (th1.over_.length:Int) then qb (idx th1.over_ gx13) fun x6=>qb (idx A73 x6) fun th7=>qb (idx A73 a1) fun th8=>qb (ck (a1≠x6)) fun _=>if th7.at_≤th8.from_ then qb (i64 (gx13+1)) fun x11=>go1 gl8 gl10 gb11 gb12 x11 else qb (M43 th8.reads_ th7.writes_) fun b41=>if b41=true then qb (M43 th7.reads_ th8.writes_) fun b45=>if b45=true then qbm A73 a1 x6 gl8 gl10 gb12 gb11 gx13 go1 true true else qbm A73 a1 x6 gl8 gl10 gb12 gb11 gx13 go1 true false else qb (M43 th7.reads_ th8.writes_) fun b43=>if b43=true then qbm A73 a1 x6 gl8 gl10 gb12 gb11 gx13 go1 false true else qbm A73 a1 x6 gl8 gl10 gb12 gb11 gx13 go1 false false else qjl gl8 gl10 gb11 gb12
def jk (th1:TStore) (A73:(List Ttx)) (a1:Int):Nat→(List Int)→(List Int)→Bool→Bool→Int→Option ((List Int)×(List Int)×Bool)
 | 0,_,_,_,_,_=>none
 | n+1,gl8,gl10,gb11,gb12,gx13=>qdT (jk th1 A73 a1 n) th1 A73 a1 gl8 gl10 gb11 gb12 gx13
def M22 (a0:Int) (a1:Int) (A69:(List TStore)) (A73:(List Ttx)):Option ((List Int)×(List Int)×Bool) :=
 qb (idx A69 a0) fun th1=>qb (zi 2 th1.logs_) fun _=>qb (zi 20 th1.items_) fun _=>jk th1 A73 a1 big [] [] false false 0
def M85 (a0:(List TVersion)):Option (List TVersion) :=
 qb (app [] a0) fun l3=>some l3
def qea:Option Int :=
 some 0
def qam (go1:Int→Option Int) (a1:(List Int)) (a2:Int) (gx1:Int):Option Int :=
 if gx1 < (a1.length:Int) then qb (idx a1 gx1) fun x5=>if x5 < 0 then some 1 else if a2 < x5 then some 1 else qb (i64 (gx1+1)) fun x8=>go1 x8 else qea
def jP (a1:(List Int)) (a2:Int):Nat→Int→Option Int
 | 0,_=>none
 | n+1,gx1=>qam (jP a1 a2 n) a1 a2 gx1
def qeb (a1:(List Int)) (a2:Int):Option Int :=
 jP a1 a2 big 0
def qal (go2:Int→Int→Option Int) (a0:(List TVersion)) (a2:Int) (a1:(List Int)) (gx2:Int) (gx3:Int):Option Int :=
 if gx3 < (a0.length:Int) then qb (idx a0 gx3) fun x10=>if x10.At≤gx2 then some 4 else if a2 < x10.At then some 4 else qb (i64 (gx3+1)) fun x14=>go2 x10.At x14 else qeb a1 a2
def jO (a0:(List TVersion)) (a2:Int) (a1:(List Int)):Nat→Int→Int→Option Int
 | 0,_,_=>none
 | n+1,gx2,gx3=>qal (jO a0 a2 a1 n) a0 a2 a1 gx2 gx3
def qnf (a0:(List TVersion)) (a1:(List Int)) (a2:Int):Option Int :=
 if 100 < (a0.length:Int) then some 2 else if 12 < (a1.length:Int) then some 2 else if a2 < 0 then some 1 else jO a0 a2 a1 big 0 0
def M48 (a0:(List Int)):Option (List Int) :=
 qb (app [] a0) fun l3=>some l3
def qpc (a0:TVersion) (a1:Int):Option Int :=
 if a0.At≤a1 then some (-1) else some 1
def yj (gx1:Int) (gb2:Bool):Option Int :=
 qb (i64 (gx1 - 1)) fun x1=>some x1
def yi (gx3:Int) (gx4:Int):Option Int :=
 yj gx3 (decide (gx4=0))
def qd9 (a0:(List TVersion)) (a1:Int) (gx3:Int):Option Int :=
 if gx3 < (a0.length:Int) then qb (idx a0 gx3) fun x3=>if x3.At≤a1 then yi gx3 (-1) else yi gx3 1 else yj gx3 false
def qbq (x8:Int) (go1:Int→Int→Option Int) (gx6:Int) (gx5:Int) (gx7:Int):Option Int :=
 if gx7 < 0 then qb (i64 ((IntKind.wrap .i64 x8)+1)) fun x11=>go1 x11 gx6 else go1 gx5 (IntKind.wrap .i64 x8)
def qak (go1:Int→Int→Option Int) (a0:(List TVersion)) (a1:Int) (gx5:Int) (gx6:Int):Option Int :=
 if gx5 < gx6 then qb (i64 (gx5+gx6)) fun x7=>qb (qbJ .u64 (IntKind.wrap .u64 x7) 1) fun x8=>qb (idx a0 (IntKind.wrap .i64 x8)) fun x9=>if x9.At≤a1 then qbq x8 go1 gx6 gx5 (-1) else qbq x8 go1 gx6 gx5 1 else qd9 a0 a1 gx5
def jN (a0:(List TVersion)) (a1:Int):Nat→Int→Int→Option Int
 | 0,_,_=>none
 | n+1,gx5,gx6=>qak (jN a0 a1 n) a0 a1 gx5 gx6
def qnF (a0:(List TVersion)) (a1:Int):Option Int :=
 jN a0 a1 big 0 (a0.length:Int)
def qi4 (gl3:(List TVersion)):Option ((List TVersion)×Int) :=
 some (gl3,0)
def qdh (go1:(List TVersion)→Int→Option ((List TVersion)×Int)) (a0:(List TVersion)) (gl1:(List (Int×Int))) (gl5:(List TVersion)) (gx6:Int):Option ((List TVersion)×Int) :=
 if gx6 < (a0.length:Int) then qb (idx a0 gx6) fun x6=>if 0 < (ko gl1 gx6 0) then qb (app gl5 ([x6])) fun l11=>qb (i64 (gx6+1)) fun x12=>go1 l11 x12 else qb (i64 (gx6+1)) fun x13=>go1 gl5 x13 else qi4 gl5
def yS (a0:(List TVersion)) (gl1:(List (Int×Int))):Nat→(List TVersion)→Int→Option ((List TVersion)×Int)
 | 0,_,_=>none
 | n+1,gl5,gx6=>qdh (yS a0 gl1 n) a0 gl1 gl5 gx6
def qg9 (a0:(List TVersion)) (gl1:(List (Int×Int))):Option ((List TVersion)×Int) :=
 yS a0 gl1 big [] 0
def qdg (go2:Int→(List (Int×Int))→Option ((List TVersion)×Int)) (l19:(List Int)) (a0:(List TVersion)) (gx7:Int) (gl8:(List (Int×Int))):Option ((List TVersion)×Int) :=
 if gx7 < (l19.length:Int) then qb (idx l19 gx7) fun x21=>qb (qnF a0 x21) fun x22=>qb (i64 ((ko gl8 x22 0)+1)) fun x24=>qb (some (qaS gl8 x22 x24)) fun l25=>qb (i64 (gx7+1)) fun x26=>go2 x26 (qaS gl8 x22 x24) else qg9 a0 gl8
def yR (l19:(List Int)) (a0:(List TVersion)):Nat→Int→(List (Int×Int))→Option ((List TVersion)×Int)
 | 0,_,_=>none
 | n+1,gx7,gl8=>qdg (yR l19 a0 n) l19 a0 gx7 gl8
def M86 (a0:(List TVersion)) (a1:(List Int)) (a2:Int):Option ((List TVersion)×Int) :=
 qb (qnf a0 a1 a2) fun x1=>if x1≠0 then some ([],x1) else qb (M48 a1) fun l14=>qb (app l14 ([a2])) fun l19=>yR l19 a0 big 0 []
def qhA (gl10:(List (List TVersion))) (gx9:Int) (go1:(List Int)→Int→(List (List TVersion))→Option (List TStore)) (gl26:(List Int)) (gl28:(List TVersion)):Option (List TStore) :=
 qb (zD 20 gl10 gx9) fun x36=>qb (upd gl10 gx9 gl28) fun l37=>qb (i64 (gx9+1)) fun x40=>go1 gl26 x40 l37
def qhw (gl10:(List (List TVersion))) (gx9:Int) (go1:(List Int)→Int→(List (List TVersion))→Option (List TStore)) (gl31:(List TVersion)) (gl32:(List Int)):Option (List TStore) :=
 qhA gl10 gx9 go1 gl32 gl31
def qdJ (go2:(List Int)→Int→Option (List TStore)) (gl30:(List Int)) (gl10:(List (List TVersion))) (gx9:Int) (go1:(List Int)→Int→(List (List TVersion))→Option (List TStore)) (gl31:(List TVersion)) (gl33:(List Int)) (gx34:Int):Option (List TStore) :=
 if gx34 < (gl30.length:Int) then qb (idx gl33 gx34) fun x50=>qb (i64 (x50 - 1)) fun x51=>qb (idx gl33 gx34) fun x52=>qb (upd gl33 gx34 x51) fun l53=>qb (i64 (gx34+1)) fun x54=>go2 l53 x54 else qhw gl10 gx9 go1 gl31 gl33
def qac (gl30:(List Int)) (gl10:(List (List TVersion))) (gx9:Int) (go1:(List Int)→Int→(List (List TVersion))→Option (List TStore)) (gl31:(List TVersion)):Nat→(List Int)→Int→Option (List TStore)
 | 0,_,_=>none
 | n+1,gl33,gx34=>qdJ (qac gl30 gl10 gx9 go1 gl31 n) gl30 gl10 gx9 go1 gl31 gl33 gx34
def qhx (gl30:(List Int)) (gl10:(List (List TVersion))) (gx9:Int) (go1:(List Int)→Int→(List (List TVersion))→Option (List TStore)) (gl31:(List TVersion)):Option (List TStore) :=
 qac gl30 gl10 gx9 go1 gl31 big gl30 0
def qdI (go3:(List TVersion)→Int→Option (List TStore)) (l45:(List TVersion)) (gl30:(List Int)) (gl10:(List (List TVersion))) (gx9:Int) (go1:(List Int)→Int→(List (List TVersion))→Option (List TStore)) (gl35:(List TVersion)) (gx36:Int):Option (List TStore) :=
 if gx36 < (l45.length:Int) then qb (idx gl35 gx36) fun x56=>qb (i64 (x56.At - 1)) fun x57=>qb (idx gl35 gx36) fun x58=>qb (upd gl35 gx36 (⟨x57,x58.Text⟩:TVersion)) fun l59=>qb (i64 (gx36+1)) fun x60=>go3 l59 x60 else qhx gl30 gl10 gx9 go1 gl35
def qab (l45:(List TVersion)) (gl30:(List Int)) (gl10:(List (List TVersion))) (gx9:Int) (go1:(List Int)→Int→(List (List TVersion))→Option (List TStore)):Nat→(List TVersion)→Int→Option (List TStore)
 | 0,_,_=>none
 | n+1,gl35,gx36=>qdI (qab l45 gl30 gl10 gx9 go1 n) l45 gl30 gl10 gx9 go1 gl35 gx36
def qhy (th1:TStore) (gl29:(List TVersion)) (gl10:(List (List TVersion))) (gx9:Int) (go1:(List Int)→Int→(List (List TVersion))→Option (List TStore)) (gl30:(List Int)):Option (List TStore) :=
 qb (i64 (th1.now_+1)) fun x44=>qB (M86 gl29 gl30 x44) fun l45 x47=>qab l45 gl30 gl10 gx9 go1 big l45 0
def qdH (go4:(List Int)→Int→Option (List TStore)) (gl8:(List Int)) (th1:TStore) (gl29:(List TVersion)) (gl10:(List (List TVersion))) (gx9:Int) (go1:(List Int)→Int→(List (List TVersion))→Option (List TStore)) (gl37:(List Int)) (gx38:Int):Option (List TStore) :=
 if gx38 < (gl8.length:Int) then qb (idx gl37 gx38) fun x62=>qb (i64 (x62+1)) fun x63=>qb (idx gl37 gx38) fun x64=>qb (upd gl37 gx38 x63) fun l65=>qb (i64 (gx38+1)) fun x66=>go4 l65 x66 else qhy th1 gl29 gl10 gx9 go1 gl37
def qaa (gl8:(List Int)) (th1:TStore) (gl29:(List TVersion)) (gl10:(List (List TVersion))) (gx9:Int) (go1:(List Int)→Int→(List (List TVersion))→Option (List TStore)):Nat→(List Int)→Int→Option (List TStore)
 | 0,_,_=>none
 | n+1,gl37,gx38=>qdH (qaa gl8 th1 gl29 gl10 gx9 go1 n) gl8 th1 gl29 gl10 gx9 go1 gl37 gx38
def qhz (gl8:(List Int)) (th1:TStore) (gl10:(List (List TVersion))) (gx9:Int) (go1:(List Int)→Int→(List (List TVersion))→Option (List TStore)) (gl29:(List TVersion)):Option (List TStore) :=
 qaa gl8 th1 gl29 gl10 gx9 go1 big gl8 0
def qdG (go5:(List TVersion)→Int→Option (List TStore)) (l41:(List TVersion)) (gl8:(List Int)) (th1:TStore) (gl10:(List (List TVersion))) (gx9:Int) (go1:(List Int)→Int→(List (List TVersion))→Option (List TStore)) (gl39:(List TVersion)) (gx40:Int):Option (List TStore) :=
 if gx40 < (l41.length:Int) then qb (idx gl39 gx40) fun x68=>qb (i64 (x68.At+1)) fun x69=>qb (idx gl39 gx40) fun x70=>qb (upd gl39 gx40 (⟨x69,x70.Text⟩:TVersion)) fun l71=>qb (i64 (gx40+1)) fun x72=>go5 l71 x72 else qhz gl8 th1 gl10 gx9 go1 gl39
def wB (l41:(List TVersion)) (gl8:(List Int)) (th1:TStore) (gl10:(List (List TVersion))) (gx9:Int) (go1:(List Int)→Int→(List (List TVersion))→Option (List TStore)):Nat→(List TVersion)→Int→Option (List TStore)
 | 0,_,_=>none
 | n+1,gl39,gx40=>qdG (wB l41 gl8 th1 gl10 gx9 go1 n) l41 gl8 th1 gl10 gx9 go1 gl39 gx40
def qdK (go1:(List Int)→Int→(List (List TVersion))→Option (List TStore)) (th1:TStore) (A69:(List TStore)) (a0:Int) (gl2:(List Int)) (gl7:(List Int)) (gl8:(List Int)) (gx9:Int) (gl10:(List (List TVersion))):Option (List TStore) :=
 if gx9 < 20 then qb (zD 20 th1.items_ gx9) fun x7=>if 1 < (x7.length:Int) then qb (M85 x7) fun l41=>wB l41 gl8 th1 gl10 gx9 go1 big l41 0 else qb (i64 (gx9+1)) fun x73=>go1 gl8 x73 gl10 else qb (upd A69 a0 (⟨th1.logs_,th1.half_,th1.gen_,th1.down_,th1.now_,gl10,gl2,gl7⟩:TStore)) fun l75=>some l75
def qae (th1:TStore) (A69:(List TStore)) (a0:Int) (gl2:(List Int)) (gl7:(List Int)):Nat→(List Int)→Int→(List (List TVersion))→Option (List TStore)
 | 0,_,_,_=>none
 | n+1,gl8,gx9,gl10=>qdK (qae th1 A69 a0 gl2 gl7 n) th1 A69 a0 gl2 gl7 gl8 gx9 gl10
def qcl (th1:TStore) (A69:(List TStore)) (a0:Int) (gl2:(List Int)) (gl4:(List Int)) (gl7:(List Int)):Option (List TStore) :=
 qae th1 A69 a0 gl2 gl7 big gl4 0 th1.items_
def qdS (th1:TStore) (A69:(List TStore)) (a0:Int) (gl2:(List Int)) (gl4:(List Int)) (gl42:(List Int)) (gx43:Int):Option (List TStore) :=
 qb (cut gl42 gx43 gl42.length) fun l77=>qb (clr gl42 gx43 (-1)) fun l78=>qb (cut l78 0 gx43) fun l79=>qcl th1 A69 a0 gl2 gl4 l79
def qdR (gx46:Int) (go6:(List Int)→Int→Int→Option (List TStore)) (gl44:(List Int)) (gx45:Int) (x83:Int) (gb47:Bool):Option (List TStore) :=
 if gb47=true then qb (i64 (gx46+1)) fun x88=>go6 gl44 gx45 x88 else qb (idx gl44 gx45) fun x84=>qb (upd gl44 gx45 x83) fun l85=>qb (i64 (gx45+1)) fun x86=>qb (i64 (gx46+1)) fun x87=>go6 l85 x86 x87
def qdF (go6:(List Int)→Int→Int→Option (List TStore)) (A73:(List Ttx)) (gx5:Int) (th1:TStore) (A69:(List TStore)) (a0:Int) (gl2:(List Int)) (gl4:(List Int)) (gl44:(List Int)) (gx45:Int) (gx46:Int):Option (List TStore) :=
 if gx46 < (gl44.length:Int) then qb (idx gl44 gx46) fun x83=>qb (idx A73 x83) fun th89=>qdR gx46 go6 gl44 gx45 x83 (decide (th89.at_≤gx5)) else qdS th1 A69 a0 gl2 gl4 gl44 gx45
def y9 (A73:(List Ttx)) (gx5:Int) (th1:TStore) (A69:(List TStore)) (a0:Int) (gl2:(List Int)) (gl4:(List Int)):Nat→(List Int)→Int→Int→Option (List TStore)
 | 0,_,_,_=>none
 | n+1,gl44,gx45,gx46=>qdF (y9 A73 gx5 th1 A69 a0 gl2 gl4 n) A73 gx5 th1 A69 a0 gl2 gl4 gl44 gx45 gx46
def qeW (th1:TStore) (A69:(List TStore)) (a0:Int) (gl2:(List Int)) (gl4:(List Int)) (A73:(List Ttx)) (gx5:Int) (gx41:Int):Option (List TStore) :=
 if gx41=(-1) then qcl th1 A69 a0 gl2 gl4 th1.over_ else qb (i64 (gx41+1)) fun x81=>y9 A73 gx5 th1 A69 a0 gl2 gl4 big th1.over_ gx41 x81
def qdQ (th1:TStore) (A69:(List TStore)) (a0:Int) (gl2:(List Int)) (gl4:(List Int)) (A73:(List Ttx)) (gx5:Int):Option (List TStore) :=
 qeW th1 A69 a0 gl2 gl4 A73 gx5 (-1)
def qdP (th1:TStore) (A69:(List TStore)) (a0:Int) (gl2:(List Int)) (gl4:(List Int)) (A73:(List Ttx)) (gx5:Int) (gx48:Int) (go7:Int→Option (List TStore)) (gb49:Bool):Option (List TStore) :=
 if gb49=true then qeW th1 A69 a0 gl2 gl4 A73 gx5 gx48 else qb (i64 (gx48+1)) fun x92=>go7 x92
def qdE (go7:Int→Option (List TStore)) (th1:TStore) (A73:(List Ttx)) (A69:(List TStore)) (a0:Int) (gl2:(List Int)) (gl4:(List Int)) (gx5:Int) (gx48:Int):Option (List TStore) :=
 if gx48 < (th1.over_.length:Int) then qb (idx th1.over_ gx48) fun x91=>qb (idx A73 x91) fun th93=>qdP th1 A69 a0 gl2 gl4 A73 gx5 gx48 go7 (decide (th93.at_≤gx5)) else qdQ th1 A69 a0 gl2 gl4 A73 gx5
def y8 (th1:TStore) (A73:(List Ttx)) (A69:(List TStore)) (a0:Int) (gl2:(List Int)) (gl4:(List Int)) (gx5:Int):Nat→Int→Option (List TStore)
 | 0,_=>none
 | n+1,gx48=>qdE (y8 th1 A73 A69 a0 gl2 gl4 gx5 n) th1 A73 A69 a0 gl2 gl4 gx5 gx48
def qeX (th1:TStore) (A73:(List Ttx)) (A69:(List TStore)) (a0:Int) (gl2:(List Int)) (gl4:(List Int)) (gx5:Int):Option (List TStore) :=
 y8 th1 A73 A69 a0 gl2 gl4 gx5 big 0
def qdD (go8:(List Int)→Int→Int→Option (List TStore)) (gl2:(List Int)) (A73:(List Ttx)) (th1:TStore) (A69:(List TStore)) (a0:Int) (gl51:(List Int)) (gx52:Int) (gx53:Int):Option (List TStore) :=
 if gx52 < (gl2.length:Int) then qb (idx gl2 gx52) fun x95=>qb (idx A73 x95) fun th96=>qb (app gl51 ([th96.from_])) fun l103=>qb (i64 (gx52+1)) fun x104=>go8 l103 x104 (min gx53 th96.from_) else qeX th1 A73 A69 a0 gl2 gl51 gx53
def y7 (gl2:(List Int)) (A73:(List Ttx)) (th1:TStore) (A69:(List TStore)) (a0:Int):Nat→(List Int)→Int→Int→Option (List TStore)
 | 0,_,_,_=>none
 | n+1,gl51,gx52,gx53=>qdD (y7 gl2 A73 th1 A69 a0 n) gl2 A73 th1 A69 a0 gl51 gx52 gx53
def qcm (A73:(List Ttx)) (th1:TStore) (A69:(List TStore)) (a0:Int) (gl2:(List Int)):Option (List TStore) :=
 y7 gl2 A73 th1 A69 a0 big [] 0 th1.now_
def qdO (A73:(List Ttx)) (th1:TStore) (A69:(List TStore)) (a0:Int) (gl55:(List Int)) (gx56:Int):Option (List TStore) :=
 qb (cut gl55 gx56 gl55.length) fun l106=>qb (clr gl55 gx56 (-1)) fun l107=>qb (cut l107 0 gx56) fun l108=>qcm A73 th1 A69 a0 l108
def qdN (x112:Int) (a1:Int) (gl57:(List Int)) (gx58:Int) (gx59:Int) (go9:(List Int)→Int→Int→Option (List TStore)):Option (List TStore) :=
 if (!(decide (x112=a1)))=true then qb (idx gl57 gx58) fun x114=>qb (upd gl57 gx58 x112) fun l115=>qb (i64 (gx58+1)) fun x116=>qb (i64 (gx59+1)) fun x117=>go9 l115 x116 x117 else qb (i64 (gx59+1)) fun x118=>go9 gl57 gx58 x118
def qdC (go9:(List Int)→Int→Int→Option (List TStore)) (A73:(List Ttx)) (a1:Int) (th1:TStore) (A69:(List TStore)) (a0:Int) (gl57:(List Int)) (gx58:Int) (gx59:Int):Option (List TStore) :=
 if gx59 < (gl57.length:Int) then qb (idx gl57 gx59) fun x112=>qb (idx A73 x112) fun th119=>qb (idx A73 a1) fun th120=>qdN x112 a1 gl57 gx58 gx59 go9 else qdO A73 th1 A69 a0 gl57 gx58
def y6 (A73:(List Ttx)) (a1:Int) (th1:TStore) (A69:(List TStore)) (a0:Int):Nat→(List Int)→Int→Int→Option (List TStore)
 | 0,_,_,_=>none
 | n+1,gl57,gx58,gx59=>qdC (y6 A73 a1 th1 A69 a0 n) A73 a1 th1 A69 a0 gl57 gx58 gx59
def yc (A73:(List Ttx)) (th1:TStore) (A69:(List TStore)) (a0:Int) (a1:Int) (gx54:Int):Option (List TStore) :=
 if gx54=(-1) then qcm A73 th1 A69 a0 th1.active_ else qb (i64 (gx54+1)) fun x110=>y6 A73 a1 th1 A69 a0 big th1.active_ gx54 x110
def qdM (A73:(List Ttx)) (th1:TStore) (A69:(List TStore)) (a0:Int) (a1:Int):Option (List TStore) :=
 yc A73 th1 A69 a0 a1 (-1)
def qdL (x122:Int) (a1:Int) (A73:(List Ttx)) (th1:TStore) (A69:(List TStore)) (a0:Int) (gx60:Int) (go10:Int→Option (List TStore)):Option (List TStore) :=
 if (decide (x122=a1))=true then yc A73 th1 A69 a0 a1 gx60 else qb (i64 (gx60+1)) fun x123=>go10 x123
def qad (go10:Int→Option (List TStore)) (th1:TStore) (A73:(List Ttx)) (a1:Int) (A69:(List TStore)) (a0:Int) (gx60:Int):Option (List TStore) :=
 if gx60 < (th1.active_.length:Int) then qb (idx th1.active_ gx60) fun x122=>qb (idx A73 x122) fun th124=>qb (idx A73 a1) fun th125=>qdL x122 a1 A73 th1 A69 a0 gx60 go10 else qdM A73 th1 A69 a0 a1
def jM (th1:TStore) (A73:(List Ttx)) (a1:Int) (A69:(List TStore)) (a0:Int):Nat→Int→Option (List TStore)
 | 0,_=>none
 | n+1,gx60=>qad (jM th1 A73 a1 A69 a0 n) th1 A73 a1 A69 a0 gx60
def M23 (a0:Int) (a1:Int) (A69:(List TStore)) (A73:(List Ttx)):Option (List TStore) :=
 qb (idx A69 a0) fun th1=>qb (zi 2 th1.logs_) fun _=>qb (zi 20 th1.items_) fun _=>jM th1 A73 a1 A69 a0 big 0
def M88 (a0:(List UInt8)):Option ((List UInt8)×Int) :=
 if 4096 < (a0.length:Int) then some ([],2) else qb (qlI (IntKind.wrap .u64 (a0.length:Int))) fun s2=>qb (yM s2 a0) fun s4=>some (s4,0)
def M50 (a0:Int) (a1:(List UInt8)):Option (List UInt8) :=
 qB (M88 a1) fun s1 x2=>qb (M89 a0) fun s4=>qb (yM s4 s1) fun s6=>some s6
def qg8 (gl2:(List (List UInt8))):Option (List (List UInt8)) :=
 some gl2
def qdf (go1:(List UInt8)→(List (List UInt8))→(List UInt8)→Option (List (List UInt8))) (a0:Int) (a1:Int) (gs3:(List UInt8)) (gl5:(List (List UInt8))) (gs6:(List UInt8)):Option (List (List UInt8)) :=
 if gs3≠[] then qb (ql6 gs6 a0 a1) fun s8=>qb (i64 (64 - (s8.length:Int))) fun x10=>qb (cut gs3 0 (min x10 (gs3.length:Int))) fun s11=>qb (yM s8 s11) fun s12=>qb (app gl5 ([s12])) fun l15=>qb (cut gs3 (min x10 (gs3.length:Int)) gs3.length) fun s16=>go1 s16 l15 ([2]) else qg8 gl5
def yQ (a0:Int) (a1:Int):Nat→(List UInt8)→(List (List UInt8))→(List UInt8)→Option (List (List UInt8))
 | 0,_,_,_=>none
 | n+1,gs3,gl5,gs6=>qdf (yQ a0 a1 n) a0 a1 gs3 gl5 gs6
def M90 (a0:Int) (a1:Int) (a2:(List UInt8)):Option (List (List UInt8)) :=
 qB (M88 a2) fun s1 x2=>qB (qjo s1) fun s4 x5=>yQ a0 a1 big s4 [] ([1])
def qhd (A152:(List TLog)) (a0:Int) (l5:(List (List UInt8))) (gl1:(List TDisk)):Option ((List TDisk)×(List TLog)×Int) :=
 qb (idx A152 a0) fun th11=>qb (i64 (th11.at_+(l5.length:Int))) fun x12=>qb (i64 (th11.seq_+1)) fun x13=>qb (upd A152 a0 (⟨th11.d_,th11.from_,th11.size_,th11.epoch_,x12,x13,th11.fell_⟩:TLog)) fun l14=>some (gl1,l14,0)
def qdl (go1:Int→(List TDisk)→Option ((List TDisk)×(List TLog)×Int)) (l5:(List (List UInt8))) (A152:(List TLog)) (a0:Int) (gx3:Int) (gl4:(List TDisk)):Option ((List TDisk)×(List TLog)×Int) :=
 if gx3 < (l5.length:Int) then qb (idx l5 gx3) fun x17=>qb (idx A152 a0) fun th18=>qb (i64 (th18.from_+th18.at_)) fun x44=>qb (i64 (x44+gx3)) fun x45=>qB (M91 th18.d_ x45 x17 gl4) fun l46 x47=>if x47≠0 then qB (M92 a0 x47 A152) fun l52 x53=>some (l46,l52,x53) else qb (i64 (gx3+1)) fun x56=>go1 x56 l46 else qhd A152 a0 l5 gl4
def wt (l5:(List (List UInt8))) (A152:(List TLog)) (a0:Int):Nat→Int→(List TDisk)→Option ((List TDisk)×(List TLog)×Int)
 | 0,_,_=>none
 | n+1,gx3,gl4=>qdl (wt l5 A152 a0 n) l5 A152 a0 gx3 gl4
def M51 (a0:Int) (a1:(List UInt8)) (A114:(List TDisk)) (A152:(List TLog)):Option ((List TDisk)×(List TLog)×Int) :=
 qb (idx A152 a0) fun th1=>if th1.fell_=true then some (A114,A152,10) else if 300 < (a1.length:Int) then some (A114,A152,2) else qb (M90 th1.epoch_ th1.seq_ a1) fun l5=>qb (i64 (th1.at_+(l5.length:Int))) fun x9=>if th1.size_ < x9 then some (A114,A152,8) else wt l5 A152 a0 big 0 A114
def M52 (a0:Int) (a1:Int) (A69:(List TStore)):Option ((List TStore)×Int) :=
 qb (idx A69 a0) fun th1=>qb (zi 2 th1.logs_) fun _=>if th1.down_=true then qb (upd A69 a0 (⟨th1.logs_,th1.half_,th1.gen_,true,th1.now_,th1.items_,th1.active_,th1.over_⟩:TStore)) fun l5=>some (l5,a1) else qb (upd A69 a0 (⟨th1.logs_,th1.half_,th1.gen_,(decide (a1≠0)),th1.now_,th1.items_,th1.active_,th1.over_⟩:TStore)) fun l7=>some (l7,a1)
def M53 (a0:Int) (A114:(List TDisk)) (A152:(List TLog)):Option ((List TDisk)×(List TLog)×Int) :=
 qb (idx A152 a0) fun th1=>if th1.fell_=true then some (A114,A152,10) else qB (M93 th1.d_ A114) fun l3 x4=>qB (M92 a0 x4 A152) fun l7 x8=>some (l3,l7,x8)
def qhv (A69:(List TStore)) (a0:Int) (A114:(List TDisk)) (A152:(List TLog)) (gs1:(List UInt8)):Option ((List TStore)×(List TDisk)×(List TLog)×Int) :=
 qb (idx A69 a0) fun th8=>qb (zi 2 th8.logs_) fun _=>qb (zD 2 th8.logs_ th8.half_) fun x10=>z7 (M51 x10 gs1 A114 A152) fun l11 l12 x13=>if x13=0 then z7 (M53 x10 l11 l12) fun l18 l19 x20=>qB (M52 a0 x20 A69) fun l24 x25=>qb (idx l24 a0) fun th28=>some (l24,l18,l19,x25) else if x13=2 then some (A69,l11,l12,x13) else if x13=8 then some (A69,l11,l12,x13) else qB (M52 a0 x13 A69) fun l31 x32=>qb (idx l31 a0) fun th35=>some (l31,l11,l12,x32)
def qdB (go1:(List UInt8)→Int→Option ((List TStore)×(List TDisk)×(List TLog)×Int)) (l7:(List Int)) (A73:(List Ttx)) (a1:Int) (A69:(List TStore)) (a0:Int) (A114:(List TDisk)) (A152:(List TLog)) (gs2:(List UInt8)) (gx3:Int):Option ((List TStore)×(List TDisk)×(List TLog)×Int) :=
 if gx3 < (l7.length:Int) then qb (idx l7 gx3) fun x37=>qb (idx A73 a1) fun th38=>qb (zD 20 th38.texts_ x37) fun x39=>qb (M50 x37 x39) fun s40=>qb (yM gs2 s40) fun s42=>qb (i64 (gx3+1)) fun x43=>go1 s42 x43 else qhv A69 a0 A114 A152 gs2
def y5 (l7:(List Int)) (A73:(List Ttx)) (a1:Int) (A69:(List TStore)) (a0:Int) (A114:(List TDisk)) (A152:(List TLog)):Nat→(List UInt8)→Int→Option ((List TStore)×(List TDisk)×(List TLog)×Int)
 | 0,_,_=>none
 | n+1,gs2,gx3=>qdB (y5 l7 A73 a1 A69 a0 A114 A152 n) l7 A73 a1 A69 a0 A114 A152 gs2 gx3
def M24 (a0:Int) (a1:Int) (A69:(List TStore)) (A73:(List Ttx)) (A114:(List TDisk)) (A152:(List TLog)):Option ((List TStore)×(List TDisk)×(List TLog)×Int) :=
 qb (idx A69 a0) fun th1=>qb (idx A73 a1) fun th2=>if (th2.writes_.length:Int)=0 then some (A69,A114,A152,0) else qb (M48 th2.writes_) fun l4=>qb (qby l4) fun l7=>y5 l7 A73 a1 A69 a0 A114 A152 big ([67]) 0
def qhL (a0:Int) (x2:Int) (gl3:(List Ttx)) (l16:(List TDisk)) (l17:(List TLog)) (gl5:(List TStore)):Option ((List TStore)×(List Ttx)×(List TDisk)×(List TLog)×Int) :=
 qb (idx gl5 a0) fun th30=>qb (zi 2 th30.logs_) fun _=>qb (zi 20 th30.items_) fun _=>qb (app th30.over_ ([x2])) fun l35=>qb (upd gl5 a0 (⟨th30.logs_,th30.half_,th30.gen_,th30.down_,th30.now_,th30.items_,th30.active_,l35⟩:TStore)) fun l37=>qb (M23 a0 x2 l37 gl3) fun l38=>qb (idx l38 a0) fun th41=>some (l38,gl3,l16,l17,0)
def qeg (go1:Int→(List TStore)→Option ((List TStore)×(List Ttx)×(List TDisk)×(List TLog)×Int)) (th42:Ttx) (a0:Int) (x2:Int) (gl3:(List Ttx)) (l16:(List TDisk)) (l17:(List TLog)) (gx7:Int) (gl8:(List TStore)):Option ((List TStore)×(List Ttx)×(List TDisk)×(List TLog)×Int) :=
 if gx7 < (th42.writes_.length:Int) then qb (idx th42.writes_ gx7) fun x44=>qb (idx gl8 a0) fun th45=>qb (zD 20 th45.items_ x44) fun x77=>qb (zi 2 th45.logs_) fun _=>qb (zD 20 th42.texts_ x44) fun x79=>qb (app x77 ([(⟨th45.now_,x79⟩:TVersion)])) fun l82=>qb (zD 20 th45.items_ x44) fun x85=>qb (upd th45.items_ x44 l82) fun l86=>qb (i64 (gx7+1)) fun x88=>qb (upd gl8 a0 (⟨th45.logs_,th45.half_,th45.gen_,th45.down_,th45.now_,l86,th45.active_,th45.over_⟩:TStore)) fun l90=>go1 x88 l90 else qhL a0 x2 gl3 l16 l17 gl8
def qar (th42:Ttx) (a0:Int) (x2:Int) (gl3:(List Ttx)) (l16:(List TDisk)) (l17:(List TLog)):Nat→Int→(List TStore)→Option ((List TStore)×(List Ttx)×(List TDisk)×(List TLog)×Int)
 | 0,_,_=>none
 | n+1,gx7,gl8=>qeg (qar th42 a0 x2 gl3 l16 l17 n) th42 a0 x2 gl3 l16 l17 gx7 gl8
def qhM (x2:Int) (a0:Int) (l16:(List TDisk)) (l17:(List TLog)) (l28:(List TStore)) (gl3:(List Ttx)):Option ((List TStore)×(List Ttx)×(List TDisk)×(List TLog)×Int) :=
 qb (idx gl3 x2) fun th42=>qar th42 a0 x2 gl3 l16 l17 big 0 l28
def qef (go2:Int→(List Ttx)→Option ((List TStore)×(List Ttx)×(List TDisk)×(List TLog)×Int)) (l9:(List Int)) (x2:Int) (a0:Int) (l16:(List TDisk)) (l17:(List TLog)) (l28:(List TStore)) (gx10:Int) (gl11:(List Ttx)):Option ((List TStore)×(List Ttx)×(List TDisk)×(List TLog)×Int) :=
 if gx10 < (l9.length:Int) then qb (idx l9 gx10) fun x92=>qb (idx gl11 x92) fun th93=>qb (zi 20 th93.texts_) fun _=>qb (upd gl11 x92 (⟨th93.id_,th93.from_,th93.at_,th93.reads_,th93.writes_,th93.texts_,th93.in_,true⟩:Ttx)) fun l96=>qb (idx l96 x2) fun th97=>qb (zi 20 th97.texts_) fun _=>qb (i64 (gx10+1)) fun x99=>qb (upd l96 x2 (⟨th97.id_,th97.from_,th97.at_,th97.reads_,th97.writes_,th97.texts_,true,th97.out_⟩:Ttx)) fun l101=>go2 x99 l101 else qhM x2 a0 l16 l17 l28 gl11
def qaq (l9:(List Int)) (x2:Int) (a0:Int) (l16:(List TDisk)) (l17:(List TLog)) (l28:(List TStore)):Nat→Int→(List Ttx)→Option ((List TStore)×(List Ttx)×(List TDisk)×(List TLog)×Int)
 | 0,_,_=>none
 | n+1,gx10,gl11=>qef (qaq l9 x2 a0 l16 l17 l28 n) l9 x2 a0 l16 l17 l28 gx10 gl11
def qhN (l9:(List Int)) (x2:Int) (a0:Int) (l16:(List TDisk)) (l17:(List TLog)) (l28:(List TStore)) (gl1:(List Ttx)):Option ((List TStore)×(List Ttx)×(List TDisk)×(List TLog)×Int) :=
 qaq l9 x2 a0 l16 l17 l28 big 0 gl1
def qee (go3:Int→(List Ttx)→Option ((List TStore)×(List Ttx)×(List TDisk)×(List TLog)×Int)) (l7:(List Int)) (x2:Int) (l9:(List Int)) (a0:Int) (l16:(List TDisk)) (l17:(List TLog)) (l28:(List TStore)) (gx13:Int) (gl14:(List Ttx)):Option ((List TStore)×(List Ttx)×(List TDisk)×(List TLog)×Int) :=
 if gx13 < (l7.length:Int) then qb (idx l7 gx13) fun x105=>qb (idx gl14 x105) fun th106=>qb (zi 20 th106.texts_) fun _=>qb (upd gl14 x105 (⟨th106.id_,th106.from_,th106.at_,th106.reads_,th106.writes_,th106.texts_,true,th106.out_⟩:Ttx)) fun l109=>qb (idx l109 x2) fun th110=>qb (zi 20 th110.texts_) fun _=>qb (i64 (gx13+1)) fun x112=>qb (upd l109 x2 (⟨th110.id_,th110.from_,th110.at_,th110.reads_,th110.writes_,th110.texts_,th110.in_,true⟩:Ttx)) fun l114=>go3 x112 l114 else qhN l9 x2 a0 l16 l17 l28 gl14
def qap (l7:(List Int)) (x2:Int) (l9:(List Int)) (a0:Int) (l16:(List TDisk)) (l17:(List TLog)) (l28:(List TStore)):Nat→Int→(List Ttx)→Option ((List TStore)×(List Ttx)×(List TDisk)×(List TLog)×Int)
 | 0,_,_=>none
 | n+1,gx13,gl14=>qee (qap l7 x2 l9 a0 l16 l17 l28 n) l7 x2 l9 a0 l16 l17 l28 gx13 gl14
def M10 (a0:Int) (a1:Int) (A69:(List TStore)) (A73:(List Ttx)) (A114:(List TDisk)) (A152:(List TLog)):Option ((List TStore)×(List Ttx)×(List TDisk)×(List TLog)×Int) :=
 qb (idx A69 a0) fun th1=>qB (M18 a0 a1 0 A69 A73) fun x2 x3=>qb (idx A69 a0) fun th5=>if x3≠0 then some (A69,A73,A114,A152,x3) else z7 (M22 a0 x2 A69 A73) fun l7 l9 b11=>qb (idx A69 a0) fun th13=>if b11=true then qci (M24 a0 x2 A69 A73 A114 A152) fun l15 l16 l17 x18=>qb (idx l15 a0) fun th23=>if x18≠0 then some (l15,A73,l16,l17,x18) else qb (zi 2 th23.logs_) fun _=>qb (i64 (th23.now_+1)) fun x26=>qb (upd l15 a0 (⟨th23.logs_,th23.half_,th23.gen_,th23.down_,x26,th23.items_,th23.active_,th23.over_⟩:TStore)) fun l28=>qb (idx A73 x2) fun th29=>qb (upd A73 x2 (⟨th29.id_,th29.from_,x26,th29.reads_,th29.writes_,th29.texts_,th29.in_,th29.out_⟩:Ttx)) fun l103=>qap l7 x2 l9 a0 l16 l17 l28 big 0 l103 else qb (M23 a0 x2 A69 A73) fun l115=>qb (idx l115 a0) fun th118=>some (l115,A73,A114,A152,12)
def qlH (a0:Int) (gl1:(List TDisk)):Option (List TDisk) :=
 qb (idx gl1 a0) fun th1=>qb (upd gl1 a0 (⟨th1.safe_,(cpy th1.seen_ th1.safe_),[],(-1)⟩:TDisk)) fun l4=>some l4
def qkg (go1:Int→(List (List UInt8))→Option (List TDisk)) (th6:TDisk) (a1:(List Bool)) (A114:(List TDisk)) (a0:Int) (gx3:Int) (gl4:(List (List UInt8))):Option (List TDisk) :=
 if gx3 < (th6.late_.length:Int) then qb (idx th6.late_ gx3) fun x8=>if gx3 < (a1.length:Int) then qb (idx a1 gx3) fun x11=>if x11=true then qb (idx gl4 x8.at_) fun x18=>qb (upd gl4 x8.at_ x8.text_) fun l19=>qb (i64 (gx3+1)) fun x20=>go1 x20 l19 else qb (i64 (gx3+1)) fun x21=>go1 x21 gl4 else qb (i64 (gx3+1)) fun x22=>go1 x22 gl4 else qb (upd A114 a0 (⟨gl4,th6.seen_,th6.late_,th6.left_⟩:TDisk)) fun l23=>qlH a0 l23
def qe8 (th6:TDisk) (a1:(List Bool)) (A114:(List TDisk)) (a0:Int):Nat→Int→(List (List UInt8))→Option (List TDisk)
 | 0,_,_=>none
 | n+1,gx3,gl4=>qkg (qe8 th6 a1 A114 a0 n) th6 a1 A114 a0 gx3 gl4
def M13 (a0:Int) (a1:(List Bool)) (A114:(List TDisk)):Option (List TDisk) :=
 qb (idx A114 a0) fun th6=>qe8 th6 a1 A114 a0 big 0 th6.safe_
def qlE (gl1:(List (List UInt8))):Option (List (List UInt8)) :=
 qb (zi 20 gl1) fun _=>qb (zi 20 (List.replicate 20 ([]:(List UInt8)))) fun _=>qb (zi 20 gl1) fun _=>qb (zi 20 gl1) fun _=>some gl1
def qkd (go1:Int→(List (List UInt8))→Option (List (List UInt8))) (th1:TStore) (gx2:Int) (gl3:(List (List UInt8))):Option (List (List UInt8)) :=
 if gx2 < 20 then qb (zD 20 th1.items_ gx2) fun x11=>qb (i64 ((x11.length:Int) - 1)) fun x12=>qb (idx x11 x12) fun x13=>qb (zD 20 gl3 gx2) fun x14=>qb (upd gl3 gx2 x13.Text) fun l15=>qb (i64 (gx2+1)) fun x16=>go1 x16 l15 else qlE gl3
def qe4 (th1:TStore):Nat→Int→(List (List UInt8))→Option (List (List UInt8))
 | 0,_,_=>none
 | n+1,gx2,gl3=>qkd (qe4 th1 n) th1 gx2 gl3
def M15 (a0:Int) (A69:(List TStore)):Option (List (List UInt8)) :=
 qb (idx A69 a0) fun th1=>qb (zi 2 th1.logs_) fun _=>qb (zi 20 th1.items_) fun _=>qe4 th1 big 0 (List.replicate 20 ([]:(List UInt8)))
def qnc (x38:Int) (l35:(List TStore)) (l25:(List Ttx)) (l36:(List TDisk)) (l37:(List TLog)) (gb24:Bool):Option ((List TStore)×(List Ttx)×(List TDisk)×(List TLog)×Bool) :=
 if gb24=true then qb (M15 x38 l35) fun x47=>qb (zi 20 x47) fun _=>qb (zi 20 ([[],[],[],[],[120],[],[],[],[],[],[],[],[],[],[],[],[],[],[],[]]:List (List UInt8))) fun _=>some (l35,l25,l36,l37,decide (x47=([[],[],[],[],[120],[],[],[],[],[],[],[],[],[],[],[],[],[],[],[]]:List (List UInt8)))) else some (l35,l25,l36,l37,false)
def qnd (gl9:(List TDisk)) (gl13:(List TLog)) (gx2:Int) (gx1:Int) (gb16:Bool) (gl17:(List TStore)) (gl21:(List Ttx)):Option ((List TStore)×(List Ttx)×(List TDisk)×(List TLog)×Bool) :=
 if gb16=true then some (gl17,gl21,gl9,gl13,false) else yN (M10 gx2 1 gl17 gl21 gl9 gl13) fun l1 l2 l3 l4 x5=>qb (ck (l1.length=gl17.length)) fun _=>qb (ck (l2.length=gl21.length)) fun _=>qb (ck (l3.length=gl9.length)) fun _=>qb (ck (l4.length=gl13.length)) fun _=>if x5≠0 then some (l1,l2,l3,l4,false) else z7 (M6 gx2 2 l1 l2) fun l16 l17 x18=>qb (ck (l16.length=l1.length)) fun _=>if x18≠0 then some (l16,l17,l3,l4,false) else qB (M9 gx2 2 5 ([121]) l16 l17) fun l25 x26=>qb (ck (l25.length=l17.length)) fun _=>if x26≠0 then some (l16,l25,l3,l4,false) else qb (M13 gx1 [] l3) fun l31=>qb (ck (l31.length=l3.length)) fun _=>yN (M14 gx1 l16 l31 l4) fun l35 l36 l37 x38 x39=>qb (ck (l36.length=l31.length)) fun _=>if x39=0 then if 0≤x38 then qnc x38 l35 l25 l36 l37 true else qnc x38 l35 l25 l36 l37 false else qnc x38 l35 l25 l36 l37 false
def qnD (A73:(List Ttx)) (gx1:Int) (gx2:Int) (gb3:Bool) (gl5:(List TStore)) (gl9:(List TDisk)) (gl13:(List TLog)):Option ((List TStore)×(List Ttx)×(List TDisk)×(List TLog)×Bool) :=
 if gb3=true then z7 (M6 gx2 1 gl5 A73) fun l53 l54 x55=>qb (ck (l53.length=gl5.length)) fun _=>if x55≠0 then qnd gl9 gl13 gx2 gx1 true l53 l54 else qB (M9 gx2 1 4 ([120]) l53 l54) fun l62 x63=>qb (ck (l62.length=l54.length)) fun _=>if x63≠0 then qnd gl9 gl13 gx2 gx1 true l53 l62 else qnd gl9 gl13 gx2 gx1 false l53 l62 else some (gl5,A73,gl9,gl13,false)
def M4 (A69:(List TStore)) (A73:(List Ttx)) (A114:(List TDisk)) (A152:(List TLog)):Option ((List TStore)×(List Ttx)×(List TDisk)×(List TLog)×Bool) :=
 qiV (M5 40 A69 A114 A152) fun l68 l69 l70 x71 x72 b73=>if b73=true then qnD A73 x71 x72 true l68 l69 l70 else qnD A73 x71 x72 false l68 l69 l70
def qhD (a0:(List TVersion)) (gx1:Int):Option ((List UInt8)×Bool) :=
 if gx1 < 0 then some ([],false) else qb (idx a0 gx1) fun x2=>some (x2.Text,true)
def qdU (go1:Int→Int→Option ((List UInt8)×Bool)) (a0:(List TVersion)) (a1:Int) (gx2:Int) (gx3:Int):Option ((List UInt8)×Bool) :=
 if gx3 < (a0.length:Int) then qb (idx a0 gx3) fun x4=>if x4.At≤a1 then qb (i64 (gx3+1)) fun x7=>go1 gx3 x7 else qb (i64 (gx3+1)) fun x8=>go1 gx2 x8 else qhD a0 gx2
def qaf (a0:(List TVersion)) (a1:Int):Nat→Int→Int→Option ((List UInt8)×Bool)
 | 0,_,_=>none
 | n+1,gx2,gx3=>qdU (qaf a0 a1 n) a0 a1 gx2 gx3
def M20 (a0:(List TVersion)) (a1:Int):Option ((List UInt8)×Bool) :=
 qaf a0 a1 big (-1) 0
def ql4 (A69:(List TStore)) (a0:Int) (x2:Int) (a2:Int) (gl1:(List Ttx)):Option ((List Ttx)×(List UInt8)×Int) :=
 qb (idx A69 a0) fun th10=>qb (idx gl1 x2) fun th11=>qb (zD 20 th10.items_ a2) fun x12=>qb (zi 2 th10.logs_) fun _=>qB (M20 x12 th11.from_) fun s14 b15=>some (gl1,s14,0)
def M7 (a0:Int) (a1:Int) (a2:Int) (A69:(List TStore)) (A73:(List Ttx)):Option ((List Ttx)×(List UInt8)×Int) :=
 qb (idx A69 a0) fun th1=>qB (M18 a0 a1 a2 A69 A73) fun x2 x3=>qb (idx A69 a0) fun th5=>if x3≠0 then some (A73,[],x3) else qb (idx A73 x2) fun th7=>qb (M19 th7.writes_ a2) fun b8=>if b8=true then qb (zD 20 th7.texts_ a2) fun x24=>some (A73,x24,0) else qb (M19 th7.reads_ a2) fun b17=>if b17=true then ql4 A69 a0 x2 a2 A73 else qb (app th7.reads_ ([a2])) fun l21=>qb (upd A73 x2 (⟨th7.id_,th7.from_,th7.at_,l21,th7.writes_,th7.texts_,th7.in_,th7.out_⟩:Ttx)) fun l23=>ql4 A69 a0 x2 a2 l23
def M56 (a0:Int):Option Bool :=
 some (decide (a0≠a0))
def qhu (a1:Int) (a0:Int) (gb1:Bool):Option Int :=
 if gb1=true then qb (M56 a1) fun b5=>if b5=true then some 0 else some (-1) else qb (M56 a1) fun b1=>if b1=true then some 1 else if a0 < a1 then some (-1) else if a1 < a0 then some 1 else some 0
def M27 (a0:Int) (a1:Int):Option Int :=
 qb (M56 a0) fun b7=>if b7=true then qhu a1 a0 true else qhu a1 a0 false
def qhY (a0:TTale) (a1:TTale):Option Int :=
 qb (M27 a0.Tx a1.Tx) fun x3=>some x3
def qjj:Option Int :=
 some 0
def qht (gx1:Int) (go1:Int→Option Int):Option Int :=
 qb (i64 (gx1+1)) fun x5=>go1 x5
def qhs (gx2:Int) (go2:Int→Option Int) (gb3:Bool):Option Int :=
 if gb3=true then qb (i64 (gx2+1)) fun x17=>go2 x17 else some 4
def qeV (gx2:Int) (go2:Int→Option Int) (gx4:Int):Option Int :=
 qhs gx2 go2 (decide (0≤gx4))
def qji (gx2:Int) (go2:Int→Option Int):Option Int :=
 qeV gx2 go2 (-1)
def qjh (x19:TTale) (x8:Int) (gx2:Int) (go2:Int→Option Int) (gx5:Int) (go3:Int→Option Int):Option Int :=
 if (decide (x19.Tx=x8))=true then qeV gx2 go2 gx5 else qb (i64 (gx5+1)) fun x20=>go3 x20
def qdy (go3:Int→Option Int) (a0:TStory) (x8:Int) (gx2:Int) (go2:Int→Option Int) (gx5:Int):Option Int :=
 if gx5 < (a0.Tales.length:Int) then qb (idx a0.Tales gx5) fun x19=>qjh x19 x8 gx2 go2 gx5 go3 else qji gx2 go2
def y4 (a0:TStory) (x8:Int) (gx2:Int) (go2:Int→Option Int):Nat→Int→Option Int
 | 0,_=>none
 | n+1,gx5=>qdy (y4 a0 x8 gx2 go2 n) a0 x8 gx2 go2 gx5
def qdz (go2:Int→Option Int) (x6:(List Int)) (a0:TStory) (gx1:Int) (go1:Int→Option Int) (gx2:Int):Option Int :=
 if gx2 < (x6.length:Int) then qb (idx x6 gx2) fun x8=>qb (cut x6 0 gx2) fun l11=>qb (M19 l11 x8) fun b12=>if b12=true then some 4 else y4 a0 x8 gx2 go2 big 0 else qht gx1 go1
def wz (x6:(List Int)) (a0:TStory) (gx1:Int) (go1:Int→Option Int):Nat→Int→Option Int
 | 0,_=>none
 | n+1,gx2=>qdz (wz x6 a0 gx1 go1 n) x6 a0 gx1 go1 gx2
def qdA (go1:Int→Option Int) (a0:TStory) (gx1:Int):Option Int :=
 if gx1 < (a0.Versions.length:Int) then qb (idx a0.Versions gx1) fun x6=>wz x6 a0 gx1 go1 big 0 else qjj
def wA (a0:TStory):Nat→Int→Option Int
 | 0,_=>none
 | n+1,gx1=>qdA (wA a0 n) a0 gx1
def qjk (a0:TStory):Option Int :=
 wA a0 big 0
def qhr (gx6:Int) (go4:Int→Option Int):Option Int :=
 qb (i64 (gx6+1)) fun x24=>go4 x24
def yb (x30:TGot) (x25:TTale) (a0:TStory) (gx7:Int) (go5:Int→Option Int) (gb8:Bool):Option Int :=
 if gb8=true then some 4 else if x30.From=x25.Tx then some 4 else if x30.From≠(-1) then qb (idx a0.Versions x30.Item) fun x34=>qb (M19 x34 x30.From) fun b35=>if b35=true then qb (i64 (gx7+1)) fun x37=>go5 x37 else some 4 else qb (i64 (gx7+1)) fun x38=>go5 x38
def qdw (go5:Int→Option Int) (x25:TTale) (a0:TStory) (gx6:Int) (go4:Int→Option Int) (gx7:Int):Option Int :=
 if gx7 < (x25.Reads.length:Int) then qb (idx x25.Reads gx7) fun x30=>if x30.Item < 0 then yb x30 x25 a0 gx7 go5 true else if (a0.Versions.length:Int)≤x30.Item then yb x30 x25 a0 gx7 go5 true else yb x30 x25 a0 gx7 go5 false else qhr gx6 go4
def y3 (x25:TTale) (a0:TStory) (gx6:Int) (go4:Int→Option Int):Nat→Int→Option Int
 | 0,_=>none
 | n+1,gx7=>qdw (y3 x25 a0 gx6 go4 n) x25 a0 gx6 go4 gx7
def qeU (x25:TTale) (a0:TStory) (gx6:Int) (go4:Int→Option Int):Option Int :=
 y3 x25 a0 gx6 go4 big 0
def qdx (go4:Int→Option Int) (a0:TStory) (gx6:Int):Option Int :=
 if gx6 < (a0.Tales.length:Int) then qb (idx a0.Tales gx6) fun x25=>if x25.Tx < 0 then some 1 else if 12≤x25.Tx then some 1 else if 0 < gx6 then qb (i64 (gx6 - 1)) fun x42=>qb (idx a0.Tales x42) fun x43=>if x25.Tx≤x43.Tx then some 4 else qeU x25 a0 gx6 go4 else qeU x25 a0 gx6 go4 else qjk a0
def wa (a0:TStory):Nat→Int→Option Int
 | 0,_=>none
 | n+1,gx6=>qdx (wa a0 n) a0 gx6
def M28 (a0:TStory):Option Int :=
 if 12 < (a0.Tales.length:Int) then some 2 else if 20 < (a0.Versions.length:Int) then some 2 else wa a0 big 0
def qhK (gl2:(List TTale)) (gl4:(List (List Int))) (gl6:(List Int)) (gl9:(List (Int×(List TGot)))):Option (TStory×Int) :=
 kD (fun x y=>(qhY x y).getD 0) gl2 fun l12=>qb (M28 (⟨l12,gl4⟩:TStory)) fun x24=>if x24≠0 then some ((⟨[],[]⟩:TStory),4) else some ((⟨l12,gl4⟩:TStory),0)
def qbt (gx11:Int) (go1:Int→(List TTale)→(List (List Int))→(List (List Int))→(List Int)→(List (Int×(List TGot)))→Option (TStory×Int)) (gl25:(List TTale)) (gl27:(List (List Int))) (gl29:(List (List Int))) (gl31:(List Int)) (gl34:(List (Int×(List TGot)))):Option (TStory×Int) :=
 qb (i64 (gx11+1)) fun x28=>go1 x28 gl25 gl27 gl29 gl31 gl34
def qhJ (gl37:(List Int)) (x29:TOp) (gl40:(List (Int×(List TGot)))) (gl13:(List TTale)) (gx11:Int) (go1:Int→(List TTale)→(List (List Int))→(List (List Int))→(List Int)→(List (Int×(List TGot)))→Option (TStory×Int)) (gl17:(List (List Int))) (gl44:(List (List Int))):Option (TStory×Int) :=
 qb (vu gl37 x29.Tx) fun x57=>qb (zZ gl40 x29.Tx) fun l59=>qb (app gl13 [(⟨x29.Tx,l59⟩:TTale)]) fun l60=>qbt gx11 go1 l60 gl44 gl17 gl37 gl40
def qec (go2:Int→(List (List Int))→Option (TStory×Int)) (x64:(List Int)) (x29:TOp) (gl37:(List Int)) (gl40:(List (Int×(List TGot)))) (gl13:(List TTale)) (gx11:Int) (go1:Int→(List TTale)→(List (List Int))→(List (List Int))→(List Int)→(List (Int×(List TGot)))→Option (TStory×Int)) (gl17:(List (List Int))) (gx46:Int) (gl47:(List (List Int))):Option (TStory×Int) :=
 if gx46 < (x64.length:Int) then qb (idx x64 gx46) fun x66=>qb (idx gl47 x66) fun x92=>qb (app x92 ([x29.Tx])) fun l95=>qb (idx gl47 x66) fun x98=>qb (upd gl47 x66 l95) fun l99=>qb (i64 (gx46+1)) fun x101=>go2 x101 l99 else qhJ gl37 x29 gl40 gl13 gx11 go1 gl17 gl47
def qan (x64:(List Int)) (x29:TOp) (gl37:(List Int)) (gl40:(List (Int×(List TGot)))) (gl13:(List TTale)) (gx11:Int) (go1:Int→(List TTale)→(List (List Int))→(List (List Int))→(List Int)→(List (Int×(List TGot)))→Option (TStory×Int)) (gl17:(List (List Int))):Nat→Int→(List (List Int))→Option (TStory×Int)
 | 0,_,_=>none
 | n+1,gx46,gl47=>qec (qan x64 x29 gl37 gl40 gl13 gx11 go1 gl17 n) x64 x29 gl37 gl40 gl13 gx11 go1 gl17 gx46 gl47
def wE (gl17:(List (List Int))) (x29:TOp) (gl37:(List Int)) (gl40:(List (Int×(List TGot)))) (gl13:(List TTale)) (gx11:Int) (go1:Int→(List TTale)→(List (List Int))→(List (List Int))→(List Int)→(List (Int×(List TGot)))→Option (TStory×Int)) (gl15:(List (List Int))) (gb43:Bool):Option (TStory×Int) :=
 if gb43=true then qb (zD 12 gl17 x29.Tx) fun x64=>qan x64 x29 gl37 gl40 gl13 gx11 go1 gl17 big 0 gl15 else qbt gx11 go1 gl13 gl15 gl17 gl37 gl40
def qbr (gl17:(List (List Int))) (x29:TOp) (gx11:Int) (go1:Int→(List TTale)→(List (List Int))→(List (List Int))→(List Int)→(List (Int×(List TGot)))→Option (TStory×Int)) (gl13:(List TTale)) (gl15:(List (List Int))) (gl37:(List Int)) (gl40:(List (Int×(List TGot)))) (a1:(List TDid)) (gb42:Bool):Option (TStory×Int) :=
 if gb42=true then qb (zD 12 gl17 x29.Tx) fun x130=>qb (app x130 ([x29.Item])) fun l133=>qb (zD 12 gl17 x29.Tx) fun x136=>qb (upd gl17 x29.Tx l133) fun l137=>qbt gx11 go1 gl13 gl15 l137 gl37 gl40 else if x29.Kind=3 then qb (idx a1 gx11) fun x103=>if x103.OK=true then wE gl17 x29 gl37 gl40 gl13 gx11 go1 gl15 true else wE gl17 x29 gl37 gl40 gl13 gx11 go1 gl15 false else wE gl17 x29 gl37 gl40 gl13 gx11 go1 gl15 false
def qao (gl17:(List (List Int))) (x29:TOp) (gx11:Int) (go1:Int→(List TTale)→(List (List Int))→(List (List Int))→(List Int)→(List (Int×(List TGot)))→Option (TStory×Int)) (gl13:(List TTale)) (gl15:(List (List Int))) (gl37:(List Int)) (gl40:(List (Int×(List TGot)))) (a1:(List TDid)) (gb49:Bool):Option (TStory×Int) :=
 if gb49=true then qbr gl17 x29 gx11 go1 gl13 gl15 gl37 gl40 a1 true else qbr gl17 x29 gx11 go1 gl13 gl15 gl37 gl40 a1 false
def qcp (gl37:(List Int)) (x29:TOp) (a1:(List TDid)) (gx11:Int) (gl40:(List (Int×(List TGot)))) (go1:Int→(List TTale)→(List (List Int))→(List (List Int))→(List Int)→(List (Int×(List TGot)))→Option (TStory×Int)) (gl13:(List TTale)) (gl15:(List (List Int))) (gl17:(List (List Int))) (gb41:Bool):Option (TStory×Int) :=
 if gb41=true then qb (vu gl37 x29.Tx) fun x163=>qb (vu gl37 x29.Tx) fun x164=>qb (idx a1 gx11) fun x166=>qb (zZ gl40 x29.Tx) fun l170=>qb (app l170 ([(⟨x29.Item,x166.From⟩:TGot)])) fun l171=>qbt gx11 go1 gl13 gl15 gl17 gl37 (vt gl40 x29.Tx l171) else if x29.Kind=2 then qb (zD 12 gl17 x29.Tx) fun x140=>qb (M19 x140 x29.Item) fun b141=>if b141=true then qao gl17 x29 gx11 go1 gl13 gl15 gl37 gl40 a1 false else qao gl17 x29 gx11 go1 gl13 gl15 gl37 gl40 a1 true else qao gl17 x29 gx11 go1 gl13 gl15 gl37 gl40 a1 false
def kQ (gl37:(List Int)) (x29:TOp) (a1:(List TDid)) (gx11:Int) (gl40:(List (Int×(List TGot)))) (go1:Int→(List TTale)→(List (List Int))→(List (List Int))→(List Int)→(List (Int×(List TGot)))→Option (TStory×Int)) (gl13:(List TTale)) (gl15:(List (List Int))) (gl17:(List (List Int))) (gb50:Bool):Option (TStory×Int) :=
 if gb50=true then qcp gl37 x29 a1 gx11 gl40 go1 gl13 gl15 gl17 true else qcp gl37 x29 a1 gx11 gl40 go1 gl13 gl15 gl17 false
def qfd (x29:TOp) (a1:(List TDid)) (gx11:Int) (go1:Int→(List TTale)→(List (List Int))→(List (List Int))→(List Int)→(List (Int×(List TGot)))→Option (TStory×Int)) (gl13:(List TTale)) (gl15:(List (List Int))) (gl17:(List (List Int))) (gl37:(List Int)) (gl40:(List (Int×(List TGot)))):Option (TStory×Int) :=
 if x29.Kind=1 then qb (idx a1 gx11) fun x174=>if x174.From≠x29.Tx then kQ gl37 x29 a1 gx11 gl40 go1 gl13 gl15 gl17 true else kQ gl37 x29 a1 gx11 gl40 go1 gl13 gl15 gl17 false else kQ gl37 x29 a1 gx11 gl40 go1 gl13 gl15 gl17 false
def qbs (x29:TOp) (gl19:(List Int)) (gl22:(List (Int×(List TGot)))) (a1:(List TDid)) (gx11:Int) (go1:Int→(List TTale)→(List (List Int))→(List (List Int))→(List Int)→(List (Int×(List TGot)))→Option (TStory×Int)) (gl13:(List TTale)) (gl15:(List (List Int))) (gl17:(List (List Int))) (gb36:Bool):Option (TStory×Int) :=
 if gb36=true then some ((⟨[],[]⟩:TStory),1) else if x29.Item < 0 then some ((⟨[],[]⟩:TStory),1) else if 20≤x29.Item then some ((⟨[],[]⟩:TStory),1) else if (ko (tk gl19) x29.Tx none).isNone=true then qB (tsAdd gl19 gl22 x29.Tx) fun l178 l179=>qfd x29 a1 gx11 go1 gl13 gl15 gl17 l178 l179 else qfd x29 a1 gx11 go1 gl13 gl15 gl17 gl19 gl22
def qed (go1:Int→(List TTale)→(List (List Int))→(List (List Int))→(List Int)→(List (Int×(List TGot)))→Option (TStory×Int)) (a0:(List TOp)) (a1:(List TDid)) (gx11:Int) (gl13:(List TTale)) (gl15:(List (List Int))) (gl17:(List (List Int))) (gl19:(List Int)) (gl22:(List (Int×(List TGot)))):Option (TStory×Int) :=
 if gx11 < (a0.length:Int) then qb (idx a0 gx11) fun x29=>if x29.Tx < 0 then qbs x29 gl19 gl22 a1 gx11 go1 gl13 gl15 gl17 true else if 12≤x29.Tx then qbs x29 gl19 gl22 a1 gx11 go1 gl13 gl15 gl17 true else qbs x29 gl19 gl22 a1 gx11 go1 gl13 gl15 gl17 false else qhK gl13 gl15 gl19 gl22
def wc (a0:(List TOp)) (a1:(List TDid)):Nat→Int→(List TTale)→(List (List Int))→(List (List Int))→(List Int)→(List (Int×(List TGot)))→Option (TStory×Int)
 | 0,_,_,_,_,_,_=>none
 | n+1,gx11,gl13,gl15,gl17,gl19,gl22=>qed (wc a0 a1 n) a0 a1 gx11 gl13 gl15 gl17 gl19 gl22
def M11 (a0:(List TOp)) (a1:(List TDid)):Option (TStory×Int) :=
 if (a0.length:Int)≠(a1.length:Int) then some ((⟨[],[]⟩:TStory),1) else if 200 < (a0.length:Int) then some ((⟨[],[]⟩:TStory),1) else qb (mk 20 ([]:(List Int))) fun l6=>wc a0 a1 big 0 [] l6 (List.replicate 12 ([]:(List Int))) [] []
def qi7:Option Int :=
 some 0
def ya (go1:Int→Option Int) (a0:(List Int)) (gx1:Int):Option Int :=
 if gx1 < (a0.length:Int) then qb (idx a0 gx1) fun x2=>if x2≠0 then some x2 else qb (i64 (gx1+1)) fun x4=>go1 x4 else qi7
def ws (a0:(List Int)):Nat→Int→Option Int
 | 0,_=>none
 | n+1,gx1=>ya (ws a0 n) a0 gx1
def M61 (a0:(List Int)):Option Int :=
 ws a0 big 0
def qfo (a0:TDep) (a1:TDep):Option Int :=
 qb (M27 a0.From a1.From) fun x4=>qb (M27 a0.To a1.To) fun x6=>qb (M27 a0.Kind a1.Kind) fun x8=>qb (M61 ([x4,x6,x8])) fun x11=>some x11
def qbl (gl6:(List TDep)):Option ((List TDep)×Int) :=
 some (gl6,0)
def qjg (l6:(List TDep)):Option ((List TDep)×Int) :=
 qbl l6
def qjf (gx7:Int) (go1:Int→Option ((List TDep)×Int)):Option ((List TDep)×Int) :=
 qb (i64 (gx7+1)) fun x12=>go1 x12
def qje (gl8:(List TDep)) (gx9:Int):Option ((List TDep)×Int) :=
 qb (cut gl8 gx9 gl8.length) fun l18=>qb (clr gl8 gx9 (⟨0,0,0⟩:TDep)) fun l19=>qb (cut l19 0 gx9) fun l20=>qbl l20
def qdu (go2:(List TDep)→Int→Int→Option ((List TDep)×Int)) (gx7:Int) (gl10:(List TDep)) (gx11:Int) (gx12:Int):Option ((List TDep)×Int) :=
 qb (cut gl10 gx7 gl10.length) fun l22=>if gx12 < (l22.length:Int) then qb (idx l22 gx12) fun x24=>qb (i64 (gx12 - 1)) fun x25=>qb (idx l22 x25) fun x26=>if x24≠x26 then qb (idx l22 gx12) fun x28=>qb (idx gl10 gx11) fun x29=>qb (upd gl10 gx11 x28) fun l30=>qb (i64 (gx11+1)) fun x31=>qb (i64 (gx12+1)) fun x32=>go2 l30 x31 x32 else qb (i64 (gx12+1)) fun x33=>go2 gl10 gx11 x33 else qje gl10 gx11
def yZ (gx7:Int):Nat→(List TDep)→Int→Int→Option ((List TDep)×Int)
 | 0,_,_,_=>none
 | n+1,gl10,gx11,gx12=>qdu (yZ gx7 n) gx7 gl10 gx11 gx12
def qdv (go1:Int→Option ((List TDep)×Int)) (l6:(List TDep)) (gx7:Int):Option ((List TDep)×Int) :=
 if gx7 < (l6.length:Int) then qb (idx l6 gx7) fun x13=>qb (i64 (gx7 - 1)) fun x14=>qb (idx l6 x14) fun x15=>if x13=x15 then qb (cut l6 gx7 l6.length) fun l17=>yZ gx7 big l6 gx7 1 else qjf gx7 go1 else qjg l6
def y0 (l6:(List TDep)):Nat→Int→Option ((List TDep)×Int)
 | 0,_=>none
 | n+1,gx7=>qdv (y0 l6 n) l6 gx7
def qeT (gl4:(List TDep)):Option ((List TDep)×Int) :=
 qb (wF (fun x y=>(qfo x y).getD 0) gl4) fun l6=>if (l6.length:Int) < 2 then qbl l6 else y0 l6 big 1
def qeS (gx13:Int) (go3:Int→(List TDep)→Option ((List TDep)×Int)) (gl17:(List TDep)):Option ((List TDep)×Int) :=
 qb (i64 (gx13+1)) fun x35=>go3 x35 gl17
def qbj (gx18:Int) (go4:Int→(List TDep)→Option ((List TDep)×Int)) (gl28:(List TDep)):Option ((List TDep)×Int) :=
 qb (i64 (gx18+1)) fun x52=>go4 x52 gl28
def qbk (a0:TStory) (x39:TGot) (x36:TTale) (gx18:Int) (go4:Int→(List TDep)→Option ((List TDep)×Int)) (gl22:(List TDep)):Option ((List TDep)×Int) :=
 qb (idx a0.Versions x39.Item) fun x41=>qb (M41 x41 x39.From) fun x42=>qb (i64 (x42+1)) fun x44=>if x44 < (x41.length:Int) then qb (idx x41 x44) fun x51=>if x36.Tx≠x51 then if 0≤x36.Tx then qb (app gl22 ([(⟨x36.Tx,x51,3⟩:TDep)])) fun l57=>qbj gx18 go4 l57 else qbj gx18 go4 gl22 else qbj gx18 go4 gl22 else qb (i64 (gx18+1)) fun x58=>go4 x58 gl22
def qds (go4:Int→(List TDep)→Option ((List TDep)×Int)) (x36:TTale) (a0:TStory) (gx13:Int) (go3:Int→(List TDep)→Option ((List TDep)×Int)) (gx18:Int) (gl20:(List TDep)):Option ((List TDep)×Int) :=
 if gx18 < (x36.Reads.length:Int) then qb (idx x36.Reads gx18) fun x39=>if x39.From≠x36.Tx then if 0≤x39.From then qb (app gl20 ([(⟨x39.From,x36.Tx,2⟩:TDep)])) fun l63=>qbk a0 x39 x36 gx18 go4 l63 else qbk a0 x39 x36 gx18 go4 gl20 else qbk a0 x39 x36 gx18 go4 gl20 else qeS gx13 go3 gl20
def wx (x36:TTale) (a0:TStory) (gx13:Int) (go3:Int→(List TDep)→Option ((List TDep)×Int)):Nat→Int→(List TDep)→Option ((List TDep)×Int)
 | 0,_,_=>none
 | n+1,gx18,gl20=>qds (wx x36 a0 gx13 go3 n) x36 a0 gx13 go3 gx18 gl20
def qdt (go3:Int→(List TDep)→Option ((List TDep)×Int)) (a0:TStory) (gx13:Int) (gl15:(List TDep)):Option ((List TDep)×Int) :=
 if gx13 < (a0.Tales.length:Int) then qb (idx a0.Tales gx13) fun x36=>wx x36 a0 gx13 go3 big 0 gl15 else qeT gl15
def wy (a0:TStory):Nat→Int→(List TDep)→Option ((List TDep)×Int)
 | 0,_,_=>none
 | n+1,gx13,gl15=>qdt (wy a0 n) a0 gx13 gl15
def qhq (a0:TStory) (gl2:(List TDep)):Option ((List TDep)×Int) :=
 wy a0 big 0 gl2
def kM (gx29:Int) (go5:Int→(List TDep)→Option ((List TDep)×Int)) (gl33:(List TDep)):Option ((List TDep)×Int) :=
 qb (i64 (gx29+1)) fun x65=>go5 x65 gl33
def kL (gx34:Int) (go6:Int→(List TDep)→Option ((List TDep)×Int)) (gl42:(List TDep)):Option ((List TDep)×Int) :=
 qb (i64 (gx34+1)) fun x80=>go6 x80 gl42
def qbi (go6:Int→(List TDep)→Option ((List TDep)×Int)) (x66:(List Int)) (gx29:Int) (go5:Int→(List TDep)→Option ((List TDep)×Int)) (gx34:Int) (gl36:(List TDep)):Option ((List TDep)×Int) :=
 if gx34 < (x66.length:Int) then qb (i64 (gx34 - 1)) fun x77=>qb (idx x66 x77) fun x78=>qb (idx x66 gx34) fun x79=>if x78≠x79 then if 0≤x78 then qb (app gl36 ([(⟨x78,x79,1⟩:TDep)])) fun l85=>kL gx34 go6 l85 else kL gx34 go6 gl36 else kL gx34 go6 gl36 else kM gx29 go5 gl36
def kU (x66:(List Int)) (gx29:Int) (go5:Int→(List TDep)→Option ((List TDep)×Int)):Nat→Int→(List TDep)→Option ((List TDep)×Int)
 | 0,_,_=>none
 | n+1,gx34,gl36=>qbi (kU x66 gx29 go5 n) x66 gx29 go5 gx34 gl36
def qdr (go5:Int→(List TDep)→Option ((List TDep)×Int)) (a0:TStory) (gx29:Int) (gl31:(List TDep)):Option ((List TDep)×Int) :=
 if gx29 < (a0.Versions.length:Int) then qb (idx a0.Versions gx29) fun x66=>kU x66 gx29 go5 big 1 gl31 else qhq a0 gl31
def kV (a0:TStory):Nat→Int→(List TDep)→Option ((List TDep)×Int)
 | 0,_,_=>none
 | n+1,gx29,gl31=>qdr (kV a0 n) a0 gx29 gl31
def M29 (a0:TStory):Option ((List TDep)×Int) :=
 qb (M28 a0) fun x2=>if x2≠0 then some ([],x2) else kV a0 big 0 []
def qi6:Option Int :=
 some 0
def qeK (x5:TE) (a0:Int) (gx1:Int) (go1:Int→Option Int) (gb2:Bool):Option Int :=
 if gb2=true then some 4 else if x5.To < 0 then some 4 else if a0≤x5.To then some 4 else qb (i64 (gx1+1)) fun x9=>go1 x9
def qdk (go1:Int→Option Int) (a1:(List TE)) (a0:Int) (gx1:Int):Option Int :=
 if gx1 < (a1.length:Int) then qb (idx a1 gx1) fun x5=>if x5.From < 0 then qeK x5 a0 gx1 go1 true else if a0≤x5.From then qeK x5 a0 gx1 go1 true else qeK x5 a0 gx1 go1 false else qi6
def yV (a1:(List TE)) (a0:Int):Nat→Int→Option Int
 | 0,_=>none
 | n+1,gx1=>qdk (yV a1 a0 n) a1 a0 gx1
def M63 (a0:Int) (a1:(List TE)):Option Int :=
 if a0 < 0 then some 1 else if 60 < a0 then some 1 else if 2000 < (a1.length:Int) then some 2 else yV a1 a0 big 0
def qi5 (gl3:(List (List Int))):Option (List (List Int)) :=
 some gl3
def qdj (go1:(List (List Int))→Int→Option (List (List Int))) (gl1:(List (List Int))) (gl5:(List (List Int))) (gx7:Int):Option (List (List Int)) :=
 if gx7 < (gl1.length:Int) then qb (idx gl5 gx7) fun x4=>qb (qby x4) fun l5=>qb (upd gl5 gx7 l5) fun l6=>qb (idx l6 gx7) fun x7=>qb (xT x7) fun l8=>qb (idx l6 gx7) fun x10=>qb (upd l6 gx7 l8) fun l11=>qb (i64 (gx7+1)) fun x13=>go1 l11 x13 else qi5 gl5
def yU (gl1:(List (List Int))):Nat→(List (List Int))→Int→Option (List (List Int))
 | 0,_,_=>none
 | n+1,gl5,gx7=>qdj (yU gl1 n) gl1 gl5 gx7
def qhc (gl1:(List (List Int))):Option (List (List Int)) :=
 yU gl1 big gl1 0
def qdi (go2:(List (List Int))→Int→Option (List (List Int))) (a1:(List TE)) (gl8:(List (List Int))) (gx10:Int):Option (List (List Int)) :=
 if gx10 < (a1.length:Int) then qb (idx a1 gx10) fun x15=>qb (idx gl8 x15.From) fun x42=>qb (app x42 ([x15.To])) fun l45=>qb (idx gl8 x15.From) fun x48=>qb (upd gl8 x15.From l45) fun l49=>qb (i64 (gx10+1)) fun x51=>go2 l49 x51 else qhc gl8
def yT (a1:(List TE)):Nat→(List (List Int))→Int→Option (List (List Int))
 | 0,_,_=>none
 | n+1,gl8,gx10=>qdi (yT a1 n) a1 gl8 gx10
def M64 (a0:Int) (a1:(List TE)):Option (List (List Int)) :=
 qb (mk a0 ([]:(List Int))) fun l1=>yT a1 big l1 0
def qjd (gl3:(List Int)):Option ((List Int)×Int) :=
 some (gl3,0)
def qho (gl6:(List Int)) (x11:Int) (go1:(List Int)→(List Int)→Option ((List Int)×Int)) (gl7:(List Int)):Option ((List Int)×Int) :=
 qb (app gl6 ([x11])) fun l18=>go1 gl7 l18
def qdp (go2:(List Int)→Int→Option ((List Int)×Int)) (x19:(List Int)) (gl6:(List Int)) (x11:Int) (go1:(List Int)→(List Int)→Option ((List Int)×Int)) (gl8:(List Int)) (gx9:Int):Option ((List Int)×Int) :=
 if gx9 < (x19.length:Int) then qb (idx x19 gx9) fun x21=>qb (idx gl8 x21) fun x22=>qb (i64 (x22 - 1)) fun x23=>qb (idx gl8 x21) fun x24=>qb (upd gl8 x21 x23) fun l25=>qb (i64 (gx9+1)) fun x26=>go2 l25 x26 else qho gl6 x11 go1 gl8
def yY (x19:(List Int)) (gl6:(List Int)) (x11:Int) (go1:(List Int)→(List Int)→Option ((List Int)×Int)):Nat→(List Int)→Int→Option ((List Int)×Int)
 | 0,_,_=>none
 | n+1,gl8,gx9=>qdp (yY x19 gl6 x11 go1 n) x19 gl6 x11 go1 gl8 gx9
def qdq (go1:(List Int)→(List Int)→Option ((List Int)×Int)) (a0:Int) (l4:(List (List Int))) (gl4:(List Int)) (gl6:(List Int)):Option ((List Int)×Int) :=
 if (gl6.length:Int) < a0 then qb (M41 gl4 0) fun x11=>if x11 < 0 then some ([],11) else qb (idx gl4 x11) fun x14=>qb (upd gl4 x11 (-1)) fun l15=>qb (idx l4 x11) fun x19=>yY x19 gl6 x11 go1 big l15 0 else qjd gl6
def wv (a0:Int) (l4:(List (List Int))):Nat→(List Int)→(List Int)→Option ((List Int)×Int)
 | 0,_,_=>none
 | n+1,gl4,gl6=>qdq (wv a0 l4 n) a0 l4 gl4 gl6
def qhp (a0:Int) (l4:(List (List Int))) (gl1:(List Int)):Option ((List Int)×Int) :=
 wv a0 l4 big gl1 []
def qhn (gx11:Int) (go3:(List Int)→Int→Option ((List Int)×Int)) (gl12:(List Int)):Option ((List Int)×Int) :=
 qb (i64 (gx11+1)) fun x28=>go3 gl12 x28
def qdn (go4:(List Int)→Int→Option ((List Int)×Int)) (x29:(List Int)) (gx11:Int) (go3:(List Int)→Int→Option ((List Int)×Int)) (gl13:(List Int)) (gx14:Int):Option ((List Int)×Int) :=
 if gx14 < (x29.length:Int) then qb (idx x29 gx14) fun x31=>qb (idx gl13 x31) fun x32=>qb (i64 (x32+1)) fun x33=>qb (idx gl13 x31) fun x34=>qb (upd gl13 x31 x33) fun l35=>qb (i64 (gx14+1)) fun x36=>go4 l35 x36 else qhn gx11 go3 gl13
def yX (x29:(List Int)) (gx11:Int) (go3:(List Int)→Int→Option ((List Int)×Int)):Nat→(List Int)→Int→Option ((List Int)×Int)
 | 0,_,_=>none
 | n+1,gl13,gx14=>qdn (yX x29 gx11 go3 n) x29 gx11 go3 gl13 gx14
def qdo (go3:(List Int)→Int→Option ((List Int)×Int)) (l4:(List (List Int))) (a0:Int) (gl10:(List Int)) (gx11:Int):Option ((List Int)×Int) :=
 if gx11 < (l4.length:Int) then qb (idx l4 gx11) fun x29=>yX x29 gx11 go3 big gl10 0 else qhp a0 l4 gl10
def wu (l4:(List (List Int))) (a0:Int):Nat→(List Int)→Int→Option ((List Int)×Int)
 | 0,_,_=>none
 | n+1,gl10,gx11=>qdo (wu l4 a0 n) l4 a0 gl10 gx11
def M30 (a0:Int) (a1:(List TE)):Option ((List Int)×Int) :=
 qb (M63 a0 a1) fun x1=>if x1≠0 then some ([],x1) else qb (M64 a0 a1) fun l4=>qb (mk a0 0) fun l8=>wu l4 a0 big l8 0
def qfc (gl4:(List Int)):Option ((List Int)×Int) :=
 some (gl4,0)
def qjs (gl6:(List Int)) (gx7:Int):Option ((List Int)×Int) :=
 qb (cut gl6 gx7 gl6.length) fun l22=>qb (clr gl6 gx7 0) fun l23=>qb (cut l23 0 gx7) fun l24=>qfc l24
def qjr (gx10:Int) (go1:(List Int)→Int→Int→Option ((List Int)×Int)) (gl8:(List Int)) (gx9:Int) (x28:Int) (gb11:Bool):Option ((List Int)×Int) :=
 if gb11=true then qb (i64 (gx10+1)) fun x33=>go1 gl8 gx9 x33 else qb (idx gl8 gx9) fun x29=>qb (upd gl8 gx9 x28) fun l30=>qb (i64 (gx9+1)) fun x31=>qb (i64 (gx10+1)) fun x32=>go1 l30 x31 x32
def qfa (gx10:Int) (go1:(List Int)→Int→Int→Option ((List Int)×Int)) (gl8:(List Int)) (gx9:Int) (x28:Int) (gb12:Bool):Option ((List Int)×Int) :=
 qjr gx10 go1 gl8 gx9 x28 (!gb12)
def qe9 (gx10:Int) (go1:(List Int)→Int→Int→Option ((List Int)×Int)) (gl8:(List Int)) (gx9:Int) (x28:Int) (gx13:Int):Option ((List Int)×Int) :=
 qfa gx10 go1 gl8 gx9 x28 (decide (0≤gx13))
def qjq (gx10:Int) (go1:(List Int)→Int→Int→Option ((List Int)×Int)) (gl8:(List Int)) (gx9:Int) (x28:Int):Option ((List Int)×Int) :=
 qe9 gx10 go1 gl8 gx9 x28 (-1)
def qjp (x36:TTale) (x28:Int) (gx10:Int) (go1:(List Int)→Int→Int→Option ((List Int)×Int)) (gl8:(List Int)) (gx9:Int) (gx14:Int) (go2:Int→Option ((List Int)×Int)):Option ((List Int)×Int) :=
 if (decide (x36.Tx=x28))=true then qe9 gx10 go1 gl8 gx9 x28 gx14 else qb (i64 (gx14+1)) fun x37=>go2 x37
def qd3 (go2:Int→Option ((List Int)×Int)) (a0:TStory) (x28:Int) (gx10:Int) (go1:(List Int)→Int→Int→Option ((List Int)×Int)) (gl8:(List Int)) (gx9:Int) (gx14:Int):Option ((List Int)×Int) :=
 if gx14 < (a0.Tales.length:Int) then qb (idx a0.Tales gx14) fun x36=>qjp x36 x28 gx10 go1 gl8 gx9 gx14 go2 else qjq gx10 go1 gl8 gx9 x28
def qaj (a0:TStory) (x28:Int) (gx10:Int) (go1:(List Int)→Int→Int→Option ((List Int)×Int)) (gl8:(List Int)) (gx9:Int):Nat→Int→Option ((List Int)×Int)
 | 0,_=>none
 | n+1,gx14=>qd3 (qaj a0 x28 gx10 go1 gl8 gx9 n) a0 x28 gx10 go1 gl8 gx9 gx14
def qd4 (go1:(List Int)→Int→Int→Option ((List Int)×Int)) (a0:TStory) (gl8:(List Int)) (gx9:Int) (gx10:Int):Option ((List Int)×Int) :=
 if gx10 < (gl8.length:Int) then qb (idx gl8 gx10) fun x28=>qaj a0 x28 gx10 go1 gl8 gx9 big 0 else qjs gl8 gx9
def wD (a0:TStory):Nat→(List Int)→Int→Int→Option ((List Int)×Int)
 | 0,_,_,_=>none
 | n+1,gl8,gx9,gx10=>qd4 (wD a0 n) a0 gl8 gx9 gx10
def qfb (l13:(List Int)) (a0:TStory) (gx5:Int):Option ((List Int)×Int) :=
 if gx5=(-1) then qfc l13 else qb (i64 (gx5+1)) fun x26=>wD a0 big l13 gx5 x26
def qd8 (l13:(List Int)) (a0:TStory):Option ((List Int)×Int) :=
 qfb l13 a0 (-1)
def qd7 (l13:(List Int)) (a0:TStory) (gx15:Int) (go3:Int→Option ((List Int)×Int)) (gb16:Bool):Option ((List Int)×Int) :=
 if gb16=true then qfb l13 a0 gx15 else qb (i64 (gx15+1)) fun x41=>go3 x41
def yh (l13:(List Int)) (a0:TStory) (gx15:Int) (go3:Int→Option ((List Int)×Int)) (gb17:Bool):Option ((List Int)×Int) :=
 qd7 l13 a0 gx15 go3 (!gb17)
def yg (l13:(List Int)) (a0:TStory) (gx15:Int) (go3:Int→Option ((List Int)×Int)) (gx18:Int):Option ((List Int)×Int) :=
 yh l13 a0 gx15 go3 (decide (0≤gx18))
def qd6 (l13:(List Int)) (a0:TStory) (gx15:Int) (go3:Int→Option ((List Int)×Int)):Option ((List Int)×Int) :=
 yg l13 a0 gx15 go3 (-1)
def qd5 (x44:TTale) (x40:Int) (l13:(List Int)) (a0:TStory) (gx15:Int) (go3:Int→Option ((List Int)×Int)) (gx19:Int) (go4:Int→Option ((List Int)×Int)):Option ((List Int)×Int) :=
 if (decide (x44.Tx=x40))=true then yg l13 a0 gx15 go3 gx19 else qb (i64 (gx19+1)) fun x45=>go4 x45
def qd1 (go4:Int→Option ((List Int)×Int)) (a0:TStory) (x40:Int) (l13:(List Int)) (gx15:Int) (go3:Int→Option ((List Int)×Int)) (gx19:Int):Option ((List Int)×Int) :=
 if gx19 < (a0.Tales.length:Int) then qb (idx a0.Tales gx19) fun x44=>qd5 x44 x40 l13 a0 gx15 go3 gx19 go4 else qd6 l13 a0 gx15 go3
def qai (a0:TStory) (x40:Int) (l13:(List Int)) (gx15:Int) (go3:Int→Option ((List Int)×Int)):Nat→Int→Option ((List Int)×Int)
 | 0,_=>none
 | n+1,gx19=>qd1 (qai a0 x40 l13 gx15 go3 n) a0 x40 l13 gx15 go3 gx19
def qd2 (go3:Int→Option ((List Int)×Int)) (l13:(List Int)) (a0:TStory) (gx15:Int):Option ((List Int)×Int) :=
 if gx15 < (l13.length:Int) then qb (idx l13 gx15) fun x40=>qai a0 x40 l13 gx15 go3 big 0 else qd8 l13 a0
def wC (l13:(List Int)) (a0:TStory):Nat→Int→Option ((List Int)×Int)
 | 0,_=>none
 | n+1,gx15=>qd2 (wC l13 a0 n) l13 a0 gx15
def qhI (a0:TStory) (gl2:(List TE)):Option ((List Int)×Int) :=
 qB (M30 12 gl2) fun l13 x15=>if x15≠0 then some ([],x15) else wC l13 a0 big 0
def qd0 (go5:(List TE)→Int→Option ((List Int)×Int)) (l2:(List TDep)) (a0:TStory) (gl21:(List TE)) (gx22:Int):Option ((List Int)×Int) :=
 if gx22 < (l2.length:Int) then qb (idx l2 gx22) fun x48=>qb (app gl21 ([(⟨x48.From,x48.To⟩:TE)])) fun l52=>qb (i64 (gx22+1)) fun x53=>go5 l52 x53 else qhI a0 gl21
def qah (l2:(List TDep)) (a0:TStory):Nat→(List TE)→Int→Option ((List Int)×Int)
 | 0,_,_=>none
 | n+1,gl21,gx22=>qd0 (qah l2 a0 n) l2 a0 gl21 gx22
def M12 (a0:TStory):Option ((List Int)×Int) :=
 qB (M29 a0) fun l2 x5=>if x5≠0 then some ([],x5) else qah l2 a0 big [] 0
def qne (gl1:(List TStore)) (gl3:(List TDisk)) (gl5:(List TLog)) (gl8:(List Ttx)) (gl11:(List TOp)) (gl13:(List TDid)) (gl14:(List ((List UInt8)×Int))):Option Bool :=
 qB (M11 gl11 gl13) fun x38 x47=>if x47≠0 then some false else qB (M12 x38) fun l56 x59=>if x59=0 then some (decide ((l56.length:Int)=(x38.Tales.length:Int))) else some false
def qhe (gx15:Int) (go1:Int→(List TStore)→(List TDisk)→(List TLog)→(List Ttx)→(List Bool)→(List TOp)→(List TDid)→(List ((List UInt8)×Int))→Option Bool) (gl31:(List TStore)) (gl33:(List TDisk)) (gl35:(List TLog)) (gl38:(List Ttx)) (gl40:(List Bool)) (gl42:(List TOp)) (gl44:(List TDid)) (gl45:(List ((List UInt8)×Int))):Option Bool :=
 qb (i64 (gx15+1)) fun x68=>go1 x68 gl31 gl33 gl35 gl38 gl40 gl42 gl44 gl45
def qj4 (gl27:(List TOp)) (x69:TWish) (gl29:(List TDid)) (gx15:Int) (go1:Int→(List TStore)→(List TDisk)→(List TLog)→(List Ttx)→(List Bool)→(List TOp)→(List TDid)→(List ((List UInt8)×Int))→Option Bool) (gx47:Int) (gl48:(List TStore)) (gl50:(List TDisk)) (gl52:(List TLog)) (gl54:(List Ttx)) (gx56:Int) (gx57:Int) (gx58:Int) (gl59:(List Bool)) (gl60:(List ((List UInt8)×Int))):Option Bool :=
 if gx47=0 then qb (app gl27 ([(⟨x69.Tx,gx57,gx58⟩:TOp)])) fun l101=>qb (app gl29 ([(⟨true,gx56⟩:TDid)])) fun l105=>qhe gx15 go1 gl48 gl50 gl52 gl54 gl59 l101 l105 gl60 else qhe gx15 go1 gl48 gl50 gl52 gl54 gl59 gl27 gl29 gl60
def qlB (x69:TWish) (gl27:(List TOp)) (x19:Int) (gl16:(List TStore)) (gl23:(List Ttx)) (gl30:(List ((List UInt8)×Int))) (gl29:(List TDid)) (gx15:Int) (go1:Int→(List TStore)→(List TDisk)→(List TLog)→(List Ttx)→(List Bool)→(List TOp)→(List TDid)→(List ((List UInt8)×Int))→Option Bool) (gl18:(List TDisk)) (gl20:(List TLog)) (gl25:(List Bool)) (gb62:Bool):Option Bool :=
 if gb62=true then qb (qek x69.Tx) fun s146=>qb (yM s146 ([46])) fun s148=>qb (qek (gl27.length:Int)) fun s149=>qb (yM s148 s149) fun s151=>qB (M9 x19 x69.Tx x69.Item s151 gl16 gl23) fun l152 x153=>qb (i64 (x69.Tx+1)) fun x162=>qb (some (qbw gl30 s151 x162)) fun l163=>qj4 gl27 x69 gl29 gx15 go1 x153 gl16 gl18 gl20 l152 (-1) 2 x69.Item gl25 (qbw gl30 s151 x162) else if x69.Kind=4 then yN (M10 x19 x69.Tx gl16 gl23 gl18 gl20) fun l131 l132 l133 l134 x135=>if x135=0 then qb (zD 12 gl25 x69.Tx) fun x142=>qb (upd gl25 x69.Tx true) fun l143=>qj4 gl27 x69 gl29 gx15 go1 x135 l131 l133 l134 l132 (-1) 3 0 l143 gl30 else qb (zD 12 gl25 x69.Tx) fun x144=>qb (upd gl25 x69.Tx (decide (x135=12))) fun l145=>qj4 gl27 x69 gl29 gx15 go1 x135 l131 l133 l134 l132 (-1) 3 0 l145 gl30 else qhe gx15 go1 gl16 gl18 gl20 gl23 gl25 gl27 gl29 gl30
def ql5 (x19:Int) (x69:TWish) (gl16:(List TStore)) (gl23:(List Ttx)) (gl30:(List ((List UInt8)×Int))) (gl27:(List TOp)) (gl29:(List TDid)) (gx15:Int) (go1:Int→(List TStore)→(List TDisk)→(List TLog)→(List Ttx)→(List Bool)→(List TOp)→(List TDid)→(List ((List UInt8)×Int))→Option Bool) (gl18:(List TDisk)) (gl20:(List TLog)) (gl25:(List Bool)) (gb61:Bool):Option Bool :=
 if gb61=true then z7 (M7 x19 x69.Tx x69.Item gl16 gl23) fun l165 s166 x167=>qb (i64 ((vi gl30 s166 0) - 1)) fun x176=>qj4 gl27 x69 gl29 gx15 go1 x167 gl16 gl18 gl20 l165 x176 1 x69.Item gl25 gl30 else if x69.Kind=3 then qlB x69 gl27 x19 gl16 gl23 gl30 gl29 gx15 go1 gl18 gl20 gl25 true else qlB x69 gl27 x19 gl16 gl23 gl30 gl29 gx15 go1 gl18 gl20 gl25 false
def qj5 (gx15:Int) (go1:Int→(List TStore)→(List TDisk)→(List TLog)→(List Ttx)→(List Bool)→(List TOp)→(List TDid)→(List ((List UInt8)×Int))→Option Bool) (gl16:(List TStore)) (gl18:(List TDisk)) (gl20:(List TLog)) (gl23:(List Ttx)) (gl25:(List Bool)) (gl27:(List TOp)) (gl29:(List TDid)) (gl30:(List ((List UInt8)×Int))) (x69:TWish) (x19:Int) (gb46:Bool):Option Bool :=
 if gb46=true then qhe gx15 go1 gl16 gl18 gl20 gl23 gl25 gl27 gl29 gl30 else qb (zD 12 gl25 x69.Tx) fun x71=>if x71=true then qhe gx15 go1 gl16 gl18 gl20 gl23 gl25 gl27 gl29 gl30 else if (gl27.length:Int)=200 then qhe gx15 go1 gl16 gl18 gl20 gl23 gl25 gl27 gl29 gl30 else if x69.Kind=1 then z7 (M6 x19 x69.Tx gl16 gl23) fun l123 l124 x125=>qhe gx15 go1 l123 gl18 gl20 l124 gl25 gl27 gl29 gl30 else if x69.Kind=2 then ql5 x19 x69 gl16 gl23 gl30 gl27 gl29 gx15 go1 gl18 gl20 gl25 true else ql5 x19 x69 gl16 gl23 gl30 gl27 gl29 gx15 go1 gl18 gl20 gl25 false
def qja (go1:Int→(List TStore)→(List TDisk)→(List TLog)→(List Ttx)→(List Bool)→(List TOp)→(List TDid)→(List ((List UInt8)×Int))→Option Bool) (a0:(List TWish)) (x19:Int) (gx15:Int) (gl16:(List TStore)) (gl18:(List TDisk)) (gl20:(List TLog)) (gl23:(List Ttx)) (gl25:(List Bool)) (gl27:(List TOp)) (gl29:(List TDid)) (gl30:(List ((List UInt8)×Int))):Option Bool :=
 if gx15 < (a0.length:Int) then qb (idx a0 gx15) fun x69=>if x69.Tx < 0 then qj5 gx15 go1 gl16 gl18 gl20 gl23 gl25 gl27 gl29 gl30 x69 x19 true else if 12≤x69.Tx then qj5 gx15 go1 gl16 gl18 gl20 gl23 gl25 gl27 gl29 gl30 x69 x19 true else qj5 gx15 go1 gl16 gl18 gl20 gl23 gl25 gl27 gl29 gl30 x69 x19 false else qne gl16 gl18 gl20 gl23 gl27 gl29 gl30
def qfp (a0:(List TWish)) (x19:Int):Nat→Int→(List TStore)→(List TDisk)→(List TLog)→(List Ttx)→(List Bool)→(List TOp)→(List TDid)→(List ((List UInt8)×Int))→Option Bool
 | 0,_,_,_,_,_,_,_,_,_=>none
 | n+1,gx15,gl16,gl18,gl20,gl23,gl25,gl27,gl29,gl30=>qja (qfp a0 x19 n) a0 x19 gx15 gl16 gl18 gl20 gl23 gl25 gl27 gl29 gl30
def M3 (a0:(List TWish)):Option Bool :=
 yN (M4 [] [] [] []) fun l1 l2 l3 l4 b5=>if b5=true then qiV (M5 200 l1 l3 l4) fun l15 l16 l17 x18 x19 b20=>if b20=true then qfp a0 x19 big 0 l15 l16 l17 l2 (List.replicate 12 (false:Bool)) [] [] [] else some false else some false
end
end Go.Proofs.YtdlemoeinjihkaaGreatDoor
