import Derived.Test.YtdlemoeinjihkaaGreatDoorTqM
import Derived.Test.YtdlemoeinjihkaaGreatDoorChecked
import Derived.KernelRfl
import Derived.Test.YtdlemoeinjihkaaGreatDoorZf
namespace Go.Proofs.YtdlemoeinjihkaaGreatDoor
open Go.S
set_option linter.unusedVariables false
abbrev jD:=fun (p0:Nat→List Value) (p1:Int)=>qV (p0 p1.toNat) 2
abbrev tQa:=fun (p0:Nat→Nat) (p1:Int) (p2:Nat→Nat) (p3:TStore) (p4:Nat→List Value)=>(.obj (p0 p1.toNat) (List.flatten [(zr (fzr (PR p2)) (fun _=>[]) p3.logs_).flatten,[.int .i64 p3.half_],[.int .i64 p3.gen_],[.bool p3.down_],[.int .i64 p3.now_],(zr qh (jD p4 p1) p3.items_).flatten,[(gv (p4 p1.toNat) 0)],[(gv (p4 p1.toNat) 1)]]) 69:As)
abbrev tQb:=fun (p0:Nat→Nat) (p1:Int) (p2:Ttx) (p3:Nat→List Value)=>(.obj (p0 p1.toNat) (List.flatten [[.int .i64 p2.id_],[.int .i64 p2.from_],[.int .i64 p2.at_],[(gv (p3 p1.toNat) 0)],[(gv (p3 p1.toNat) 1)],(zr (fzr SR) (fun _=>[]) p2.texts_).flatten,[.bool p2.in_],[.bool p2.out_]]) 73:As)
abbrev qfG:=fun p0 p1 (p2:List Int)=>(.os (zv p0 p1 90 p2):As)
abbrev qkw:=fun p0 p1 (p2:(List (Int×(List TGot)))) (p3:Nat→List Value) (p4:List TTale)=>(.any (zA p0 p1 92 2 (qC TGot.row p2) (zs TTale.sds p3 p4)):As)
abbrev qjF:=fun (p0:Nat) p1 (p2:(List (List Int)))=>(.sl (sv p0 (20:Int).toNat) 52 1 (zr qh p1 p2):As)
abbrev tQW:=fun (p0:Nat→List Value) (p1:(List (List Int)))=>(.ss (zs (qF 3 1 I) p0 p1):As)
abbrev tQc:=fun p0 p1 (p2:List Int) p3 p4 (p5:(List (Int×(List TGot)))) p6 (p7:List TTale) (p8:Nat) (p9:Value) p10 p11 (p12:(List (List Int)))=>([.mp p0 (km (VT p1) (tk p2)),qfG p1 p3 p2,qkw p4 p3 p5 p6 p7,.obj p8 [.slice none 0 0,.slice none 0 0] 49,.sl p9 90 2 (zr TTale.rowv p6 p7),qjF p10 p11 p12,tQW p11 p12,.os []]:List As)
abbrev tQab:=List.replicate 20 ([]:(List UInt8))
abbrev tQbh:=zr (fzr SR) (fun _=>[]) tQab
abbrev tQd:=([[.int .i64 0],[.bool false],tQbh.flatten]:List (List Value))
abbrev yu:=qF 84 2 TVersion.row
abbrev tQe:=fun (p0:Nat→List Value) (p1:Int) (p2:TStore)=>(.ss (zs yu (jD p0 p1) p2.items_):As)
abbrev qlS:=fun (p0:TWish)=>([.int .i64 p0.Kind,.int .i64 p0.Tx,.int .i64 p0.Item,st p0.Text]:List Value)
abbrev tQf:=fun (p0:Nat) (p1:TWish) (p2:Nat) (p3:List Bool) (p4:Nat) (p5:Value) (p6:Value) p7 (p8:(List ((List UInt8)×Int))) (p9:List TOp) (p10:List TDid)=>([.obj p0 (qlS p1) 35,.obj p2 ((p3.map B).flatten) 33,.obj p4 [p5,p6,.map (some p7)] 32,.mq p7 (qav st (VI .i64) p8),.sl p5 37 3 (p9.map TOp.row),.sl p6 39 2 (p10.map TDid.row),.os []]:List As)
abbrev tQg:=fun (p0:Nat→Nat) (p1:Int) (p2:Nat→Nat) (p3:TStore) (p4:Nat→List Value) (p5:Value)=>(.obj (p0 p1.toNat) (List.flatten [(zr (fzr (PR p2)) (fun _=>[]) p3.logs_).flatten,[.int .i64 p3.half_],[.int .i64 p3.gen_],[.bool p3.down_],[.int .i64 p3.now_],(zr qh (jD p4 p1) p3.items_).flatten,[p5],[(gv (p4 p1.toNat) 1)]]) 69:As)
abbrev tQh:=fun (p0:Nat→List Value) (p1:Int)=>gv (p0 p1.toNat) 1
abbrev tQi:=fun (p0:Nat→List Value) (p1:Int)=>gv (p0 p1.toNat) 0
abbrev tQj:=fun (p0:TStore)=>(.ss (zs sd0 (fun _=>[]) p0.logs_):As)
abbrev tQk:=fun (p0:qi)=>([[.int .i64 p0.gen_],[.bool p0.whole_],(zr (fzr SR) (fun _=>[]) p0.values_).flatten]:List (List Value))
abbrev tQl:=fun (p0:Nat→Nat) (p1:Int) (p2:Nat→Nat) (p3:TLog)=>(.obj (p0 p1.toNat) [VP p2 p3.d_,.int .i64 p3.from_,.int .i64 p3.size_,.int .i64 p3.epoch_,.int .i64 p3.at_,.int .i64 p3.seq_,.bool p3.fell_] 152:As)
abbrev tQm:=(.slice none 0 0:Value)
abbrev tQn:=fun (p0:Value) (p1:List Int) (p2:Nat→Nat)=>(.sl p0 70 1 (p1.map (PR p2)):As)
abbrev jX:=fun (p0:Int)=>([.int .i64 p0]:List Value)
abbrev tQp:=fun (p0:Int) (p1:Bool) (p2:(List (List UInt8)))=>([(jX p0),[.bool p1],(zr (fzr SR) (fun _=>[]) p2).flatten]:List (List Value))
abbrev tQq:=fun (p0:Nat→Nat) p1 (p2:List Ttx) (p3:Nat) (p4:Int) (p5:Nat) (p6:TWish) (p7:Int) (p8:Int) (p9:Nat) (p10:List Bool) p11 (p12:(List ((List UInt8)×Int)))=>([zE p0 p1 p2 [],.obj p3 [.bool true,.int .i64 p4] 39,.obj p5 [.int .i64 p6.Tx,.int .i64 p7,.int .i64 p8] 37,.obj p9 ((p10.map B).flatten) 33,.mq p11 (qav st (VI .i64) p12),.os []]:List As)
abbrev tQr:=fun (p0:Nat→Nat) (p1:Int) (p2:Nat→Nat) (p3:TStore) p4 (p5:(List (List TVersion))) (p6:Value) (p7:Value)=>(.obj (p0 p1.toNat) (List.flatten [(zr (fzr (PR p2)) (fun _=>[]) p3.logs_).flatten,[.int .i64 p3.half_],[.int .i64 p3.gen_],[.bool p3.down_],[.int .i64 p3.now_],(zr qh p4 p5).flatten,[p6],[p7]]) 69:As)
abbrev tQs:=(.ss (zs sd0 (fun _=>[]) tQab):As)
abbrev tQt:=fun (p0:Nat→Nat) (p1:Nat→List Value) (p2:List TDisk)=>qS p0 p1 p2 []
abbrev tQu:=fun (p0:Nat→Nat) (p1:Nat→Nat) (p2:Nat→Nat) (p3:Nat→List Value) (p4:List TStore) (p5:Int)=>zg p0 p1 p2 p3 p4 (p5.toNat :: [])
abbrev tQv:=fun (p0:Nat) (p1:TWish) (p2:Int) (p3:Int)=>(.obj p0 [.int .i64 p1.Tx,.int .i64 p2,.int .i64 p3] 37:As)
abbrev tQw:=fun (p0:Nat→Nat) (p1:Nat→Nat) (p2:Nat→List Value) (p3:List TLog)=>qY p0 p1 p2 p3 []
abbrev tQx:=fun (p0:Nat→List Value) (p1:Int) (p2:TDisk)=>(.sl (gv (p0 p1.toNat) 2) 116 2 (p2.late_.map Twrite.row):As)
abbrev tQaX:=List.replicate 20 ([]:(List TVersion))
abbrev tQy:=(.ss (zs yu (fun _=>[xn]) tQaX):As)
abbrev tQz:=fun (p0:Ttx)=>(.ss (zs sd0 (fun _=>[]) p0.texts_):As)
abbrev tQA:=fun (p0:qi)=>(.ss (zs sd0 (fun _=>[]) p0.values_):As)
abbrev tQB:=fun (p0:Nat) (p1:Int)=>(.obj p0 [.bool true,.int .i64 p1] 39:As)
abbrev tQC:=fun (p0:Nat→Nat) (p1:Nat→List Value) (p2:List Ttx)=>zE p0 p1 p2 []
abbrev tQD:=fun (p0:Value) (p1:(List (List UInt8)))=>(.sl p0 9 1 (p1.map SR):As)
abbrev tQE:=([.int .i64 0,st [],.int .i64 0]:List Value)
abbrev tQF:=fun (p0:TStore) (p1:Nat→Nat)=>p0.over_.map (PR p1)
abbrev tQG:=fun (p0:TStore) (p1:Nat→Nat)=>p0.active_.map (PR p1)
abbrev tQH:=fun (p0:Nat→Nat) (p1:Nat→Nat) (p2:Nat→Nat) (p3:Nat→List Value) (p4:List TStore)=>zg p0 p1 p2 p3 p4 []
abbrev tQI:=fun (p0:Value) (p1:List Int)=>(.sl p0 3 1 (p1.map I):As)
abbrev tQJ:=fun p0=>(.map (some p0):Value)
abbrev tQK:=fun (p0:Nat) (p1:Value) (p2:Nat) (p3:Value) (p4:Value) (p5:List TDep)=>([.obj p0 [p1] 97,.obj p2 [p3,p4] 49,.sl p1 102 3 (p5.map TDep.row),.os []]:List As)
abbrev tQL:=fun (p0:Nat→Nat) (p1:Nat→List Value) (p2:List Ttx) (p3:Int)=>zE p0 p1 p2 (p3.toNat :: [])
abbrev tQM:=zr qh (fun _=>[xn]) tQaX
abbrev tQN:=fun (p0:Nat→Nat) (p1:Nat→List Value) (p2:List TDisk) (p3:Int)=>qS p0 p1 p2 (p3.toNat :: [])
abbrev tQO:=fun (p0:Nat) (p1:Int)=>(.obj p0 (jX p1) 3:As)
abbrev jh:=fun (p0:Nat→List Value) (p1:Int) (p2:TStore) (p3:Nat→Nat)=>(.sl (tQh p0 p1) 70 1 (tQF p2 p3):As)
abbrev ka:=fun (p0:Nat→List Value) (p1:Int) (p2:TStore) (p3:Nat→Nat)=>(.sl (tQi p0 p1) 70 1 (tQG p2 p3):As)
abbrev tQP:=fun (p0:Nat→Nat) (p1:Nat→Nat) (p2:Nat→Nat) (p3:Nat→List Value) (p4:List TStore) (p5:Int) (p6:TStore) (p7:Value) (p8:List Int) (p9:Value) (p10:List Int)=>([tQu p0 p1 p2 p3 p4 p5,tQa p0 p5 p2 p6 p3,tQj p6,tQe p3 p5 p6,tQn p7 p8 p1,tQn p9 p10 p1,jh p3 p5 p6 p1,ka p3 p5 p6 p1]:List As)
abbrev tQQ:=fun (p0:Nat) (p1:TOp)=>(.obj p0 [.int .i64 p1.Tx,.int .i64 p1.Kind,.int .i64 p1.Item] 37:As)
abbrev qij:=fun (p0:Nat→Nat) (p1:Int) (p2:Nat→List Value) (p3:TDisk)=>(.obj (p0 p1.toNat) [(tQi p2 p1),(tQh p2 p1),(gv (p2 p1.toNat) 2),.int .i64 p3.left_] 114:As)
abbrev qcA:=fun (p0:Nat→List Value) (p1:Int) (p2:TDisk)=>(.sl (tQh p0 p1) 9 1 (p2.seen_.map SR):As)
abbrev tQR:=fun (p0:Nat→Nat) (p1:Int) (p2:Nat→List Value) (p3:TDisk) (p4:List TDisk)=>([qij p0 p1 p2 p3,.sl (tQi p2 p1) 9 1 (p3.safe_.map SR),qcA p2 p1 p3,tQx p2 p1 p3,tQN p0 p2 p4 p1]:List As)
abbrev tQS:=fun (p0:Nat→Nat) (p1:Int) (p2:Nat→Nat) (p3:TStore) (p4:Nat→List Value) (p5:Nat→Nat) (p6:List TStore) (p7:Nat→List Value) (p8:List Ttx)=>([tQa p0 p1 p2 p3 p4,ka p4 p1 p3 p5,jh p4 p1 p3 p5,tQj p3,tQe p4 p1 p3,tQu p0 p5 p2 p4 p6 p1,tQC p5 p7 p8]:List As)
abbrev tQT:=fun (p0:Nat) (p1:TWish) (p2:Int) (p3:Int)=>(.sl (sv p0 1) 37 3 (([(⟨p1.Tx,p2,p3⟩:TOp)]).map TOp.row):As)
abbrev tQU:=fun (p0:Nat) (p1:Int)=>(.sl (sv p0 1) 39 2 (([(⟨true,p1⟩:TDid)]).map TDid.row):As)
abbrev qfI:=fun (p0:Int) (p1:Bool) (p2:(List (List UInt8)))=>List.flatten (tQp p0 p1 p2)
abbrev tQV:=fun (p0:World) (p1:Nat) (p2:Int) (p3:Bool) (p4:(List (List UInt8))) (p5:Nat)=>Cls p0 [] [.obj p1 (qfI p2 p3 p4) 119,.ss (zs sd0 (fun _=>[]) p4),.obj p5 (List.flatten tQd) 119,tQs]
abbrev tQX:=fun (p0:Nat) (p1:Value) (p2:Nat)=>(.obj p0 [p1,(sv p2 (20:Int).toNat)] 49:As)
abbrev xX:=fun (p0:Nat→List Value) (p1:Int) (p2:Ttx)=>(.sl (tQh p0 p1) 3 1 (p2.writes_.map I):As)
abbrev xW:=fun (p0:Nat→List Value) (p1:Int) (p2:Ttx)=>(.sl (tQi p0 p1) 3 1 (p2.reads_.map I):As)
abbrev tQY:=fun (p0:Nat→Nat) p1 (p2:List Ttx) (p3:Int) (p4:Nat→Nat) (p5:Nat→List Value) (p6:List TDisk) (p7:Nat→Nat) (p8:Nat→List Value) (p9:List TLog) (p10:Ttx)=>([tQL p0 p1 p2 p3,tQt p4 p5 p6,tQw p4 p7 p8 p9,tQb p0 p3 p10 p1,tQz p10,xX p1 p3 p10,xW p1 p3 p10]:List As)
abbrev tQZ:=fun (p0:Nat→Nat) (p1:Int) (p2:Nat→Nat) (p3:TStore) (p4:Nat→List Value) (p5:Nat→Nat)=>([tQa p0 p1 p2 p3 p4,tQj p3,tQe p4 p1 p3,ka p4 p1 p3 p5,jh p4 p1 p3 p5]:List As)
abbrev xV:=fun (p0:Nat) p1 (p2:(List (List Int)))=>(.obj p0 (zr qh p1 p2).flatten 86:As)
abbrev qbv:=fun (p0:Nat) (p1:TWish)=>(.obj p0 [.int .i64 p1.Tx,.int .i64 0,.int .i64 p1.Item] 37:As)
abbrev vz:=fun (p0:Nat)=>(.obj p0 [.bool true,.int .i64 (-1)] 39:As)
abbrev qlR:=fun (p0:Nat→Nat) (p1:Int) (p2:Nat→List Value) p3 (p4:List TDisk)=>([qij p0 p1 p2 p3,qcA p2 p1 p3,tQx p2 p1 p3,tQN p0 p2 p4 p1]:List As)
abbrev qes:=fun (p0:Nat) (p1:List Bool)=>(.obj p0 ((p1.map B).flatten) 33:As)
abbrev qI:=fun (p0:Int)=>(.int .i64 p0:Value)
abbrev jQ:=fun (p0:Value) (p1:List TOp)=>(.sl p0 37 3 (p1.map TOp.row):As)
abbrev qnU:=fun (p0:qi)=>List.flatten ([.int .i64 p0.gen_]::[.bool p0.whole_]::(zr (fzr SR) (fun _=>[]) p0.values_).flatten::tQd)
abbrev we:=fun (p0:qi) (p1:Nat) (p2:Value) p3 (p4:Nat) p5 (p6:Nat) (p7:Nat→Nat) (p8:Nat→Nat) (p9:Nat→Nat) (p10:Nat→List Value) (p11:List TStore)=>([tQA p0,.obj p1 (List.flatten (tQk p0)) 119,tQD p2 p3,tQs,tQA p0,.obj p4 (qnU p0) 120,tQy,.ss (zs sd0 (fun _=>[]) p5),.obj p6 (List.flatten [(zr (fzr (PR p7)) (fun _=>[]) p5).flatten,[.int .i64 0],[.int .i64 0],[.bool false],[.int .i64 0],tQM.flatten,[tQm],[tQm]]) 69,tQH p8 p9 p7 p10 p11]:List As)
abbrev qaE:=fun (p0:Value) (p1:List TDid)=>(.sl p0 39 2 (p1.map TDid.row):As)
abbrev zd:=fun (p0:Nat→Nat) (p1:Nat→List Value) (p2:List TDisk) (p3:Nat→Nat) (p4:Nat→List Value) (p5:List TLog)=>([tQt p0 p1 p2,tQw p0 p3 p4 p5]:List As)
abbrev qfg:=fun (p0:List TVersion)=>p0.map TVersion.row
abbrev jZ:=fun (p0:Nat→Nat) (p1:Int) (p2:Nat→Nat) (p3:TStore) p4 (p5:(List (List TVersion))) (p6:Value) (p7:Value) (p8:Value) (p9:List Int) (p10:Value) (p11:List TVersion) (p12:List Int) (p13:Nat→Nat) (p14:List Int)=>([tQr p0 p1 p2 p3 p4 p5 p6 p7,tQj p3,.ss (zs (qF 84 2 TVersion.row) p4 p5),tQI p8 p9,.sl p10 84 2 (qfg p11),tQn p6 p12 p13,tQn p7 p14 p13]:List As)
abbrev qnY:=fun p0 (p1:(List ((List UInt8)×Int)))=>(.mq p0 (qav st (VI .i64) p1):As)
abbrev wK:=fun (p0:Nat) (p1:qi)=>(.obj p0 (List.flatten (tQk p1)) 119:As)
abbrev vy:=fun (p0:Nat→Nat) (p1:Int) (p2:Nat→Nat) (p3:TStore) (p4:Nat→List Value) (p5:Nat→Nat) (p6:List TStore)=>([tQa p0 p1 p2 p3 p4,ka p4 p1 p3 p5,jh p4 p1 p3 p5,tQj p3,tQe p4 p1 p3,tQu p0 p5 p2 p4 p6 p1]:List As)
abbrev qnX:=([[.int .i64 0],[.int .i64 0],[.bool false],[.int .i64 0],tQM.flatten,[tQm],[tQm]]:List (List Value))
abbrev qmi:=fun (p0:Nat) (p1:qi) (p2:qi)=>(.obj p0 (List.flatten ([.int .i64 p1.gen_]::[.bool p1.whole_]::(zr (fzr SR) (fun _=>[]) p1.values_).flatten::tQk p2)) 120:As)
abbrev qhU:=fun (p0:Value) (p1:Nat→List Value) (p2:List TTale)=>(.sl p0 90 2 (zr TTale.rowv p1 p2):As)
abbrev qbH:=fun p0 p1 (p2:List Int)=>(.mp p0 (km (VT p1) (tk p2)):As)
abbrev qcz:=fun (p0:TE)=>([.int .i64 p0.From,.int .i64 p0.To]:List Value)
abbrev qer:=fun (p0:Nat→Nat) (p1:Nat→Nat) (p2:Nat→List Value) (p3:List TLog) (p4:Int)=>qY p0 p1 p2 p3 (p4.toNat :: [])
abbrev qcy:=fun (p0:World) (p1:List Nat) (p2:Nat→Nat) (p3:Nat→Nat) (p4:Nat→Nat) (p5:Nat→List Value) (p6:List TStore) (p7:Nat→Nat) (p8:Nat→List Value) (p9:List TDisk) (p10:Nat→List Value) (p11:List TLog) (p12:Nat→List Value) (p13:List Ttx)=>Cls p0 p1 [tQH p2 p3 p4 p5 p6,tQt p7 p8 p9,tQw p7 p4 p10 p11,tQC p3 p12 p13]
abbrev qjE:=fun (p0:TDep)=>([.int .i64 p0.From,.int .i64 p0.To,.int .i64 p0.Kind]:List Value)
abbrev k8:=fun (p0:Nat→List Value) (p1:Int)=>([(tQi p0 p1),(tQh p0 p1)]:List Value)
abbrev qlT:=fun (p0:Nat) (p1:Value) (p2:Value) p3=>(.obj p0 [p1,p2,tQJ p3] 32:As)
abbrev tQaC:=([.int .i64 0,.bool false,.string ⟨#[]⟩,.string ⟨#[]⟩,.string ⟨#[]⟩,.string ⟨#[]⟩,.string ⟨#[]⟩,.string ⟨#[]⟩,.string ⟨#[]⟩,.string ⟨#[]⟩,.string ⟨#[]⟩,.string ⟨#[]⟩,.string ⟨#[]⟩,.string ⟨#[]⟩,.string ⟨#[]⟩,.string ⟨#[]⟩,.string ⟨#[]⟩,.string ⟨#[]⟩,.string ⟨#[]⟩,.string ⟨#[]⟩,.string ⟨#[]⟩,.string ⟨#[]⟩]:List Value)
abbrev qmh:=List.replicate 2 ((-1):Int)
abbrev wg:=fun (p0:Nat) (p1:Nat) (p2:Nat→Nat) (p3:Nat→Nat) (p4:Nat→Nat) (p5:Nat→List Value) (p6:List TStore)=>([tQs,tQs,.obj p0 (List.flatten ([.int .i64 0]::[.bool false]::(zr (fzr SR) (fun _=>[]) tQab).flatten::tQd)) 120,tQy,.ss (zs sd0 (fun _=>[]) qmh),.obj p1 (List.flatten ((zr (fzr (PR p2)) (fun _=>[]) qmh).flatten::qnX)) 69,tQH p3 p4 p2 p5 p6]:List As)
abbrev qkx:=fun p0 p1 (p2:(List (List Int))) p3 p4 (p5:List Int) p6 (p7:Nat) p8 p9 (p10:(List (List Int)))=>([xV p0 p1 p2,tQW p1 p2,qbH p3 p4 p5,.os (zv p4 p6 90 p5),.obj p7 [tQm,tQm] 49,qjF p8 p9 p10,tQW p9 p10,.os []]:List As)
abbrev qjH:=fun (p0:Nat) (p1:TStore) p2=>(.sl (sv p0 1) 84 2 (([(⟨p1.now_,p2⟩:TVersion)]).map TVersion.row):As)
abbrev qet:=fun (p0:Value) (p1:List TDep)=>([.sl p0 102 3 (p1.map TDep.row),.os []]:List As)
abbrev qjG:=fun (p0:Nat)=>(.obj p0 [tQm,tQm] 49:As)
abbrev zG:=fun (p0:Int)=>p0.toNat*1
abbrev qat:=fun (p0:Nat) (p1:Value) (p2:Value)=>(.obj p0 [p1,p2] 49:As)
abbrev z8:=fun (p0:Nat→Nat) (p1:Nat→Nat) (p2:Nat→Nat) (p3:Nat→List Value) (p4:List TStore) (p5:Nat→List Value) (p6:List Ttx)=>([tQH p0 p1 p2 p3 p4,tQC p1 p5 p6]:List As)
abbrev qii:=fun (p0:TStore)=>(.int .i64 (p0.over_.length:Int):Value)
abbrev qfJ:=fun (p0:TStory)=>(.int .i64 (p0.Tales.length:Int):Value)
abbrev qih:=#[.int .i64 0,st [],.int .i64 0]
abbrev qas:=fun (p0:Nat→Nat) (p1:Nat→Nat) (p2:Nat→Nat) (p3:Nat→List Value) (p4:List TStore) (p5:Nat→List Value) (p6:List Ttx) (p7:Nat→Nat) (p8:Nat→List Value) (p9:List TDisk) (p10:Nat→List Value) (p11:List TLog)=>tQH p0 p1 p2 p3 p4::tQC p1 p5 p6::zd p7 p8 p9 p2 p10 p11
abbrev qig:=fun p0 (p1:Value) (p2:Value) p3 (p4:(List ((List UInt8)×Int))) (p5:List TOp) (p6:List TDid)=>([qlT p0 p1 p2 p3,qnY p3 p4,jQ p1 p5,qaE p2 p6,.os []]:List As)
abbrev qfh:=fun (p0:Nat→Nat) p1 (p2:List Ttx) p3 (p4:Int) p5 (p6:TWish) (p7:Int) (p8:Int) p9 (p10:List Bool) p11 (p12:Value) (p13:Value) p14 (p15:(List ((List UInt8)×Int)))=>([tQC p0 p1 p2,tQB p3 p4,tQv p5 p6 p7 p8,qes p9 p10,qlT p11 p12 p13 p14,qnY p14 p15,.os []]:List As)
abbrev qff:=fun (p0:Nat→Nat) (p1:Nat→List Value) (p2:List TDisk) (p3:Nat→Nat) (p4:Nat→List Value) (p5:List TLog) (p6:Value) (p7:List Int) (p8:Nat→Nat) (p9:Value) (p10:List Int)=>([tQt p0 p1 p2,tQw p0 p3 p4 p5,tQn p6 p7 p8,tQn p9 p10 p8]:List As)
abbrev qlN:=fun (p0:Value) (p1:(List (List UInt8))) (p2:Int)=>([(17,p0),(18,.int .i64 (p1.length:Int)),(19,.int .i64 p2)]:List (Nat×Value))
abbrev jC:=fun (p0:Nat)=>(.obj p0 tQE 157:As)
abbrev vx:=fun (p0:Nat→Nat) (p1:Int) (p2:Nat→Nat) (p3:TStore) (p4:Nat→List Value) (p5:Value) (p6:List Int) (p7:Nat→Nat) (p8:List Int) (p9:Value) (p10:List Int)=>([tQg p0 p1 p2 p3 p4 p5,tQj p3,tQe p4 p1 p3,.sl (tQh p4 p1) 70 1 (p6.map (PR p7)),tQn p5 p8 p7,tQI p9 p10]:List As)
abbrev qhS:=fun (p0:Nat) (p1:List UInt8)=>(.sl (sv p0 1) 9 1 (([p1]).map SR):As)
abbrev qif:=fun p0 (p1:Int) p2 (p3:TWish) (p4:Int) (p5:Int) p6 (p7:List Bool) p8 (p9:Value) (p10:Value) p11 (p12:(List ((List UInt8)×Int))) (p13:List TDid)=>([tQB p0 p1,tQv p2 p3 p4 p5,qes p6 p7,qlT p8 p9 p10 p11,qnY p11 p12,qaE p10 p13,.os []]:List As)
abbrev wJ:=fun (p0:Value) (p1:Int)=>el p0 (p1.toNat*2)
abbrev qie:=fun (p0:Nat) (p1:Int) p2 (p3:(List (List Int)))=>(.sl (sv p0 p1.toNat) 52 1 (zr qh p2 p3):As)
abbrev qjB:=fun (p0:World) (p1:List Nat) (p2:Nat→Nat) (p3:Int) (p4:Nat→Nat) p5 (p6:Nat→List Value) (p7:List TLog) (p8:Nat→List Value) (p9:List TDisk)=>Cls p0 p1 [tQl p2 p3 p4 p5,qer p4 p2 p6 p7 p3,tQt p4 p8 p9]
abbrev xd:=fun (p0:Nat→Nat) (p1:Nat→List Value) (p2:List TDisk)=>qS p0 p1 p2 []
abbrev jY:=fun (p0:Nat) (p1:Int)=>sv p0 p1.toNat
abbrev xc:=fun (p0:Nat→Nat) (p1:Nat→Nat) (p2:Nat→List Value) (p3:List TLog)=>qY p0 p1 p2 p3 []
abbrev qfF:=fun (p0:Nat) (p1:Int) (p2:List UInt8) (p3:Int)=>(.obj p0 [qI p1,st p2,qI p3] 157:As)
abbrev qbG:=fun (p0:World) (p1:List Nat) (p2:Nat→Nat) (p3:Nat→Nat) (p4:Nat→List Value) (p5:List TLog) (p6:Nat→List Value) (p7:List TDisk)=>Cls p0 p1 [tQw p2 p3 p4 p5,tQt p2 p6 p7]
abbrev k7:=fun (p0:Nat→Nat) (p1:Int) (p2:Nat→Nat) p3 (p4:Nat→List Value) (p5:Nat→Nat) (p6:List TStore) (p7:Nat→List Value) (p8:List Ttx) (p9:Nat→Nat) (p10:Nat→List Value) (p11:List TDisk) (p12:Nat→List Value) (p13:List TLog)=>tQa p0 p1 p2 p3 p4::ka p4 p1 p3 p5::jh p4 p1 p3 p5::tQj p3::tQe p4 p1 p3::tQu p0 p5 p2 p4 p6 p1::tQC p5 p7 p8::zd p9 p10 p11 p2 p12 p13
abbrev qid:=fun (p0:TGot)=>([.int .i64 p0.Item,.int .i64 p0.From]:List Value)
abbrev kS:=fun (p0:Nat→Nat) (p1:Int) (p2:Nat→Nat) (p3:TStore) (p4:Nat→List Value) (p5:Value) (p6:Value) (p7:List Int) (p8:List Int) (p9:Nat→Nat)=>([tQg p0 p1 p2 p3 p4 p5,tQj p3,tQe p4 p1 p3,tQI p6 p7,tQn p5 p8 p9,jh p4 p1 p3 p9]:List As)
abbrev qjA:=fun p0 (p1:Value) p2 (p3:List TTale) p4 p5 (p6:(List (List Int)))=>([qjG p0,qhU p1 p2 p3,qjF p4 p5 p6,tQW p5 p6,.os []]:List As)
abbrev qfe:=fun (p0:World) p1 (p2:Value) (p3:Value) (p4:Value) (p5:List Int) p6=>Cls p0 [] [qat p1 p2 p3,tQI p4 p5,.os p6]
abbrev kZ:=fun (p0:Nat→Nat) (p1:Int) (p2:Nat→Nat) (p3:TStore) (p4:Nat→List Value) (p5:Value) (p6:Nat→Nat) (p7:List Int) (p8:Value) (p9:List Int)=>([tQg p0 p1 p2 p3 p4 p5,tQj p3,tQe p4 p1 p3,jh p4 p1 p3 p6,tQn p5 p7 p6,tQI p8 p9]:List As)
abbrev qhR:=fun (p0:World) p1 (p2:Int) p3 (p4:Value) (p5:Value)=>Cls p0 [] [tQO p1 p2,qat p3 p4 p5,.os []]
abbrev qlM:=fun (p0:TStory)=>(.int .i64 (p0.Versions.length:Int):Value)
abbrev qkv:=fun (p0:Nat)=>(.func (.func 58) #[] #[pt p0 0]:Value)
abbrev qku:=fun (p0:Nat) (p1:Int) (p2:Nat→Nat)=>(.sl (sv p0 1) 70 1 (([p1]).map (PR p2)):As)
abbrev qjD:=fun (p0:TVersion)=>([.int .i64 p0.At,st p0.Text]:List Value)
abbrev qhT:=fun (p0:Int) (p1:Int)=>p0.toNat :: p1.toNat :: []
abbrev qnn:=fun (p0:Trecord)=>([.int .i64 p0.epoch_,st p0.text_,.int .i64 p0.size_]:List Value)
abbrev qnW:=fun (p0:Nat→Nat) (p1:Int) (p2:Value) (p3:Value) (p4:Bool) (p5:Bool) (p6:Int) (p7:Bool) (p8:Bool) (p9:Nat→List Value) (p10:Int) (p11:TStore) (p12:Int)=>([(1,VP p0 p1),(4,p2),(5,p3),(7,.bool p4),(8,.bool p5),(10,VP p0 p6),(11,.bool p7),(12,.bool p8),(16,(tQh p9 p10)),(17,qii p11),(18,qI p12)]:List (Nat×Value))
abbrev qeq:=fun (p0:TTale) (p1:Nat→List Value) (p2:Int)=>([.int .i64 p0.Tx,tQi p1 p2]:List Value)
abbrev qnV:=fun (p0:Nat) (p1:Nat→Nat) (p2:Int) (p3:Int) (p4:Int)=>(.obj p0 [VP p1 p2,.int .i64 p3,.int .i64 p4,.int .i64 0,.int .i64 1,.int .i64 0,.bool false] 152:As)
abbrev qnm:=fun p0 (p1:Value) p2 p3 p4 (p5:(List (List Int))) p6 p7 (p8:List Int) p9 p10 (p11:(List (Int×(List TGot)))) p12 (p13:List TTale) p14=>([tQX p0 p1 p2,xV p3 p4 p5,tQW p4 p5,qbH p6 p7 p8,qfG p7 p9 p8,qkw p10 p9 p11 p12 p13,qjG p14,qhU p1 p12 p13,.os []]:List As)
abbrev qlQ:=fun (p0:Nat) (p1:TOp)=>(.sl (sv p0 1) 3 1 (([p1.Item]).map I):As)
abbrev qnl:=fun (p0:World) (p1:Value) (p2:Nat→List Value) (p3:(List (List Int))) p4 (p5:Int) (p6:List Int)=>Cls p0 [] [.sl p1 52 1 (zr qh p2 p3),tQW p2 p3,.sl (jY p4 p5) 3 1 (p6.map I)]
abbrev xu:=fun (p0:Nat→Nat) (p1:Nat→Nat) (p2:Nat→Nat) (p3:Nat→List Value) (p4:List TStore)=>zg p0 p1 p2 p3 p4 []
abbrev qnk:=fun (p0:Value) (p1:List TOp) (p2:Int)=>([(27,p0),(28,.int .i64 (p1.length:Int)),(29,qI p2)]:List (Nat×Value))
abbrev qfH:=fun (p0:TStore)=>(.int .i64 p0.now_:Value)
abbrev wd:=fun (p0:Nat→Nat) (p1:Int) (p2:Nat→Nat) (p3:TStore) (p4:Nat→List Value) (p5:List Int) (p6:Nat→Nat)=>([tQa p0 p1 p2 p3 p4,tQj p3,tQe p4 p1 p3,.sl (tQi p4 p1) 70 1 (p5.map (PR p6)),jh p4 p1 p3 p6]:List As)
abbrev qjC:=fun (p0:Nat→Nat) (p1:Nat→Nat) (p2:Nat→Nat) (p3:Nat→List Value) (p4:List TStore) (p5:Nat→Nat) (p6:Nat→List Value) (p7:List TDisk) (p8:Nat→List Value) (p9:List TLog) (p10:Value) (p11:List Int)=>([tQH p0 p1 p2 p3 p4,tQt p5 p6 p7,tQw p5 p2 p8 p9,tQn p10 p11 p1]:List As)
abbrev qlP:=fun (p0:Nat→Nat) (p1:Int) (p2:Nat→Nat) p3 (p4:Nat→List Value) (p5:List TLog) (p6:Nat→List Value) (p7:List TDisk) (p8:Value) (p9:(List (List UInt8)))=>([tQl p0 p1 p2 p3,qer p2 p0 p4 p5 p1,tQt p2 p6 p7,tQD p8 p9]:List As)
abbrev qlO:=fun (p0:Nat) (p1:TOp)=>(.sl (sv p0 1) 3 1 (([p1.Tx]).map I):As)
end Go.Proofs.YtdlemoeinjihkaaGreatDoor
