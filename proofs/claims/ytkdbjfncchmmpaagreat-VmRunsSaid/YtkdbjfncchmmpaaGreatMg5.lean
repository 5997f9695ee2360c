/- The functions of the part 'code' as lists of steps. -/
import Derived.Test.YtkdbjfncchmmpaaGreatMg4
import Derived.Test.YtkdbjfncchmmpaaGreatRows
import Derived.Deep.QuietTactic
import Derived.BigQuiet
import Derived.Lib.SliceRun
import Derived.WalkLawsBesides
namespace Go.Proofs.YtkdbjfncchmmpaaGreat
open Nat renaming reduceAdd→θ,reduceSub→ξ,reduceLeDiff→ψ,reduceLT→ω
open List renaming replicate→η
set_option linter.unusedSimpArgs false
set_option linter.unusedVariables false
set_option linter.unusedSimpArgs false
set_option linter.unusedVariables false
open Go
def A8:List RS:=[(.ops [ql]),(.ops [ay,yR,aV,Oj,(.g (.l 1) false .l (.bin (.int .i64) .gtr (.l 0) (.c (.int .i64 21)))),(.i (.v 2) I6)]),(.cond (.v 2) [(.ops [SX]),.ret] []),(.ops [(.i .l (.build [(.int .i64 0),(.int .i64 0),(.int .i64 0),(.int .i64 0),(.int .i64 0),(.int .i64 0),(.int .i64 0),(.int .i64 0),(.int .i64 0),(.int .i64 0),(.int .i64 0),(.int .i64 0),(.int .i64 0),(.int .i64 0),(.int .i64 0),(.int .i64 0),(.int .i64 0),(.int .i64 0),(.int .i64 0),(.int .i64 0),(.int .i64 0),(.int .i64 0)] [(0,1),(1,1),(2,1),(3,1),(4,1),(5,1),(6,1),(7,1),(8,1),(9,1),(10,1),(11,1),(12,1),(13,1),(14,1),(15,1),(16,1),(17,1),(18,1),(19,1),(20,1),(21,1)] [(0,(.c (.int .i64 0))),(1,(.c (.int .i64 0))),(2,(.c (.int .i64 0))),(3,(.c (.int .i64 0))),(4,(.c (.int .i64 0))),(5,(.c (.int .i64 2))),(6,(.c (.int .i64 2))),(7,(.c (.int .i64 3))),(8,(.c (.int .i64 2))),(9,(.c (.int .i64 1))),(10,(.c (.int .i64 1))),(11,(.c (.int .i64 1))),(12,(.c (.int .i64 1))),(13,(.c (.int .i64 1))),(14,(.c (.int .i64 2))),(15,(.c (.int .i64 1))),(16,(.c (.int .i64 1))),(17,(.c (.int .i64 1))),(18,(.c (.int .i64 1))),(19,(.c (.int .i64 2))),(20,(.c (.int .i64 1))),(21,(.c (.int .i64 0)))])),ay,(.i .l (.ix false (some (22,(1,false))) (.l 1) (.l 0))),iS]),.ret]
theorem MU:FnR Tryz.prog po 123 1 3 [0,2,8] A8 [(.v 1)] true:=by refine⟨_,_,Tryz.func123,rfl,rfl,?_,?_,?_,?_,?_⟩<;>kernel_rfl
def sJ:List RS:=[(.ops [bk,aV,oW,Gi,Ia,wR,(.g (.l 4) true .l yF),(.i (.v 3) GA)]),(.cond (.v 3) [(.ops [ay,bN,lP,bX,fU])] [])]
theorem ze:FnR Tryz.prog po 103 3 4 [0,1,2,13] sJ [] false:=by refine⟨_,_,Tryz.func103,rfl,rfl,?_,?_,?_,?_,?_⟩<;>kernel_rfl
def Eo:List RS:=[(.ops [H8,(.i (.v 3) (.box 1 (.v 1))),BV]),(.ops [(.i .l (.load false 1 (.v 3))),pZ,aV,(.g (.l 0) true .l (.fad 3 (.v 2))),lE,(.g (.l 2) true .l (.mkf 122 [] [(.v 3)])),(.g (.l 3) true .l (.call (.c (.fn 121 [] [])) [(.l 1),(.l 0)])),B4,Bg,dB]),.ret]
theorem NK:FnR Tryz.prog po 104 2 5 [0,1,2,3,4] Eo [(.v 4)] true:=by refine⟨_,_,Tryz.func104,rfl,rfl,?_,?_,?_,?_,?_⟩<;>kernel_rfl
def Bc:List RS:=[(.ops [H8,zZ]),(.ops [(.i .l (.load true 4 (.v 2))),(.i .l (.load false 1 (.v 1))),gc,(.i .l (.call (.c (.fn 104 [] [])) [(.l 2),(.l 0)])),lW,cV]),.ret]
theorem Ly:FnR Tryz.prog po 122 2 4 [0,1,2,3] Bc [(.v 3)] true:=by refine⟨_,_,Tryz.func122,rfl,rfl,?_,?_,?_,?_,?_⟩<;>kernel_rfl
def si:List RS:=[d9,(.ops [ay,bk,(.i .l (.call (.c (.fn 141 [] [])) [(.l 1),(.l 0)])),pZ,dH]),.ret]
theorem Df:FnR Tryz.prog po 121 2 3 [0,1,4] si [(.v 2)] true:=by refine⟨_,_,Tryz.func121,rfl,rfl,?_,?_,?_,?_,?_⟩<;>kernel_rfl
def iB:List RS:=[(.ops [O1]),(.cond (.v 6) [] [(.exit 0)]),(.block 1 [(.ops [bT,cV]),(.ops [bk,ay,bm,oC,fC,QM]),(.cond (.v 7) [n9,.ret] [])]),(.ops [Nl,dw])]
def Al:List RS:=[iC,(.ops [ay,(.i (.v 4) tS),jF]),(.block 0 [(.loop iB)]),(.ops [IG]),.ret]
theorem MQ:FnR Tryz.prog po 141 2 8 [0,1,4,5,7,8,9,16] Al [(.v 2)] true:=by refine⟨_,_,Tryz.func141,rfl,rfl,?_,?_,?_,?_,?_⟩<;>kernel_rfl
def kj:List RS:=[(.ops [bA,qc,ai,jG,xV,aV,Dt,SN,OI]),(.cond (.v 5) [] [(.exit 0)]),(.block 1 [(.ops [qc,ai,bA,oC,fC,bk,(.i .l (.call (.c (.fn 105 [] [])) [(.l 1),(.l 0)])),iS])]),sW]
def AF:List RS:=[IP,(.ops [bk,gc,iS]),lO,(.block 0 [(.loop kj)]),(.ops [bk,cV]),.ret]
theorem Lw:FnR Tryz.prog po 105 2 6 [0,1,2,4,5,16] AF [(.v 3)] true:=by refine⟨_,_,Tryz.func105,rfl,rfl,?_,?_,?_,?_,?_⟩<;>kernel_rfl
def uC:List RS:=[Tz,(.ops [ay,jQ,ai,oU,aV,(.g (.l 0) true .l (.fad 0 (.v 3))),lE,C0,yH,(.i .l (.call (.c (.fn 103 [] [])) [(.l 8),(.l 0),(.c (.int .i64 5))]))]),(.ops [g9,(.i (.v 4) f9)]),(.block 0 [(.ops [Dj,dw]),(.cond (.v 5) [(.ops [ay,eu,ai,jJ,aV,mS,fG,(.g (.l 2) false .l (.mv (.v 2))),(.g (.l 3) false .l (.bin (.int .i64) .geq (.l 1) (.l 0))),(.i .l qB),(.i .l (.call (.c (.fn 103 [] [])) [(.l 9),(.l 0),(.c (.int .i64 1))]))])] [(.ops [(.i .l (.bin (.int .i64) .eql (.v 4) (.c (.int .i64 6)))),dM]),(.cond (.v 6) [(.ops [ay,eu,ai,yR,aV,mS,fG,Do,pV,(.i .l (.call (.c (.fn 103 [] [])) [(.l 8),(.l 0),(.c (.int .i64 1))]))])] [(.ops [(.i .l (.bin (.int .i64) .eql (.v 4) (.c (.int .i64 15)))),fV]),(.cond (.v 7) [(.ops [ay,eu,ai,CU,lW,(.i .l (.call (.c (.fn 103 [] [])) [(.l 4),(.l 0),(.c (.int .i64 1))]))])] [(.ops [(.i .l (.bin (.int .i64) .eql (.v 4) (.c (.int .i64 18)))),dE]),(.cond (.v 8) [(.ops [ay,eu,ai,jJ,aV,mS,fG,BE,B8,BU,(.g (.l 5) false .l nV),Cz,(.g (.l 7) false .l tS),(.g (.l 8) false .l (.bin (.int .i64) .geq (.l 6) (.l 0))),(.i .l (.pick (.l 9) (.c (.bool true)) (.l 0))),(.i .l (.call (.c (.fn 103 [] [])) [(.l 14),(.l 0),(.c (.int .i64 1))]))])] [(.ops [ay,eu,ai,oU,(.i .l (.call (.c (.fn 103 [] [])) [(.l 3),(.l 0),(.c (.int .i64 5))]))])])])])])])]
theorem Ec:FnR Tryz.prog po 124 3 9 [0,1,2,4,17,23,36,48,56] uC [] false:=by refine⟨_,_,Tryz.func124,rfl,rfl,?_,?_,?_,?_,?_⟩<;>kernel_rfl
def ie:List RS:=[BJ,(.cond (.v 10) [] [(.exit 0)]),(.block 1 [(.ops [iX,ID,fC,PC,(.i (.v 5) tC),QS]),(.ops [ay,bg,bX,ai,(.i (.v 11) dT)]),(.cond (.v 11) [.ret] []),(.ops [g9,ai,yT,aV,OE,GD,(.i (.v 12) vP)]),(.cond (.v 12) [(.ops [ay,Jh,bN,oF,(.i .l (.call (.c (.fn 106 [] [])) [(.l 3),(.l 2),(.l 0)]))])] [(.ops [ay,Jh,bN,(.i .l (.call (.c (.fn 106 [] [])) [(.l 2),(.l 1),(.l 0)]))])])]),Ct]
def D8:List RS:=[Tz,(.ops [g9,ai,(.i .l (.call (.c (.fn 123 [] [])) [(.l 0)])),dB]),(.ops [ay,bA,jJ,(.i .l (.call (.c (.fn 103 [] [])) [(.l 2),(.l 0),(.c (.int .i64 2))]))]),(.ops [ay,lL,ai,jG,bA,yr,(.i .l (.call (.c (.fn 103 [] [])) [(.l 5),(.l 0),(.c (.int .i64 5))]))]),(.ops [ay,(.i .l (.load true 4 (.v 3))),bN,(.i .l (.call (.c (.fn 124 [] [])) [(.l 2),(.l 1),(.l 0)]))]),(.ops [ay,g9,ai,yT,aV,Hk,IN,wh,(.i .l (.call (.c (.fn 103 [] [])) [(.l 7),(.l 0),(.c (.int .i64 3))]))]),(.ops [lL,vX,Gh,pa]),(.block 0 [(.loop ie)])]
theorem Ot:FnR Tryz.prog po 106 3 13 [0,1,2,4,6,7,8,37,38,39,40,48,55] D8 [] false:=by refine⟨_,_,Tryz.func106,rfl,rfl,?_,?_,?_,?_,?_⟩<;>kernel_rfl
def ke:List RS:=[BJ,(.cond (.v 10) [] [(.exit 0)]),(.block 1 [(.ops [iX,ID,fC,O8,(.i (.v 3) tC),Sc]),(.ops [G4,(.i .l (.build [.nils,(.int .i64 0)] [(0,1),(1,1)] [(0,(.l 0))])),DB,dw]),(.ops [bT,zc,(.i .l (.call (.c (.fn 104 [] [])) [(.l 0),(.c (.int .i64 30))])),lW,(.i .l (.call (.c (.fn 103 [] [])) [(.l 3),(.l 0),(.c (.int .i64 4))]))]),(.ops [bT,bT,bg,bX,ai,Dk,aV,(.g (.l 0) true .l (.load true 4 (.v 4))),(.g (.l 1) true .l (.call (.c (.fn 105 [] [])) [(.l 0),(.c (.int .i64 120))])),BR,yH,(.i .l (.call (.c (.fn 103 [] [])) [(.l 10),(.l 0),(.c (.int .i64 3))]))]),(.ops [bT,bg,bX,ai,Ds]),(.cond (.v 11) [(.ops [bT,zc,(.i .l (.call (.c (.fn 106 [] [])) [(.l 1),(.l 0),(.c (.int .i64 0))]))])] []),(.ops [bT,bg,bX,ai,(.i (.v 12) dT)]),(.cond (.v 12) [(.ops [bT,bg,bX,ai,bm,PO,pw]),.ret] [])]),Ct]
def Aq:List RS:=[(.ops [wc,HJ]),(.ops [fT,ai,jG,Dk,aV,qP,fG,RH,NG,PM]),(.cond (.v 6) [(.ops [(.i .l (.build [(.int .i64 0),(.int .i64 0)] [(0,1),(1,1)] [(0,(.c (.int .i64 3))),(1,(.c (.int .i64 (-1))))])),pw]),.ret] []),(.ops [fT,vX,Gh,pa]),(.block 0 [(.loop ke)]),(.ops [xI,pw]),.ret]
theorem Mt:FnR Tryz.prog po 78 1 13 [0,1,2,3,4,5,15,18,19,20,21,49,57] Aq [(.cell true 2 2)] true:=by refine⟨_,_,Tryz.func78,rfl,rfl,?_,?_,?_,?_,?_⟩<;>kernel_rfl
def VX:List RS:=[(.ops [HJ]),(.ops [ay,bk,PO,pw]),.ret]
theorem Zg:FnR Tryz.prog po 108 2 3 [0,1,4] VX [(.cell true 2 2)] true:=by refine⟨_,_,Tryz.func108,rfl,rfl,?_,?_,?_,?_,?_⟩<;>kernel_rfl
def wH:List RS:=[(.ops [ql]),(.ops [Gy]),(.block 0 [(.ops [(.i .l (.bin (.int .i64) .eql (.v 2) (.c (.int .i64 1)))),cV]),(.cond (.v 3) [] [(.ops [(.i .l (.bin (.int .i64) .eql (.v 2) (.c (.int .i64 2)))),cV]),(.cond (.v 3) [] [(.ops [(.i .l (.bin (.int .i64) .eql (.v 2) (.c (.int .i64 3)))),cV]),(.cond (.v 3) [] [(.ops [(.i .l (.bin (.int .i64) .eql (.v 2) (.c (.int .i64 4)))),cV]),(.cond (.v 3) [] [(.ops [(.i .l (.bin (.int .i64) .eql (.v 2) (.c (.int .i64 21)))),cV])])])])]),(.cond (.v 3) [(.ops [ql]),.ret] [(.ops [(.i .l (.bin (.int .i64) .eql (.v 2) (.c (.int .i64 9)))),dB]),(.cond (.v 4) [] [(.ops [(.i .l (.bin (.int .i64) .eql (.v 2) (.c (.int .i64 10)))),dB]),(.cond (.v 4) [] [(.ops [(.i .l (.bin (.int .i64) .eql (.v 2) (.c (.int .i64 11)))),dB]),(.cond (.v 4) [] [(.ops [(.i .l (.bin (.int .i64) .eql (.v 2) (.c (.int .i64 12)))),dB]),(.cond (.v 4) [] [(.ops [(.i .l (.bin (.int .i64) .eql (.v 2) (.c (.int .i64 13)))),dB]),(.cond (.v 4) [] [(.ops [(.i .l (.bin (.int .i64) .eql (.v 2) (.c (.int .i64 15)))),dB]),(.cond (.v 4) [] [(.ops [(.i .l (.bin (.int .i64) .eql (.v 2) (.c (.int .i64 16)))),dB]),(.cond (.v 4) [] [(.ops [(.i .l (.bin (.int .i64) .eql (.v 2) (.c (.int .i64 17)))),dB]),(.cond (.v 4) [] [(.ops [(.i .l (.bin (.int .i64) .eql (.v 2) (.c (.int .i64 18)))),dB]),(.cond (.v 4) [] [(.ops [(.i .l (.bin (.int .i64) .eql (.v 2) (.c (.int .i64 20)))),dB])])])])])])])])])]),(.cond (.v 4) [(.ops [(.i (.v 1) yh)]),.ret] [(.ops [(.i .l (.bin (.int .i64) .eql (.v 2) (.c (.int .i64 5)))),dw]),(.cond (.v 5) [] [(.ops [(.i .l (.bin (.int .i64) .eql (.v 2) (.c (.int .i64 6)))),dw]),(.cond (.v 5) [] [(.ops [(.i .l (.bin (.int .i64) .eql (.v 2) (.c (.int .i64 8)))),dw]),(.cond (.v 5) [] [(.ops [(.i .l (.bin (.int .i64) .eql (.v 2) (.c (.int .i64 14)))),dw]),(.cond (.v 5) [] [(.ops [(.i .l (.bin (.int .i64) .eql (.v 2) (.c (.int .i64 19)))),dw])])])])]),(.cond (.v 5) [(.ops [(.i (.v 1) yS)]),.ret] [(.ops [(.i .l (.bin (.int .i64) .eql (.v 2) (.c (.int .i64 7)))),dM]),(.cond (.v 6) [(.ops [(.i (.v 1) (.mv (.c (.int .i64 3))))]),.ret] [])])])])]),(.ops [SX]),.ret]
theorem GB:FnR Tryz.prog po 125 1 7 [0,2,3,4,10,21,27] wH [(.v 1)] true:=by refine⟨_,_,Tryz.func125,rfl,rfl,?_,?_,?_,?_,?_⟩<;>kernel_rfl
def j8:List RS:=[(.ops [bT,qc,ai,jG,xV,aV,Cw,G7,Jg,(.i (.v 7) vN)]),(.cond (.v 7) [] [(.exit 0)]),(.block 1 [(.ops [IL]),(.ops [bk,(.i (.v 8) Pw)]),(.cond (.v 8) [(.ops [qc,ai,bT,oC,fC,bk,gc,(.i .l (.call (.c (.fn 109 [] [])) [(.l 2),(.l 0)])),(.i .l (.bin (.int .i64) .add (.c (.int .i64 1)) (.l 0))),dM])] []),(.ops [dQ,bA,(.i (.v 9) Dx)]),(.cond (.v 9) [(.ops [dQ,dB])] [])]),yz]
def Bd:List RS:=[IP,lO,oe,(.block 0 [(.loop j8)]),wK,.ret]
theorem MC:FnR Tryz.prog po 109 2 10 [0,1,2,4,5,6,7,17,21,33] Bd [(.v 3)] true:=by refine⟨_,_,Tryz.func109,rfl,rfl,?_,?_,?_,?_,?_⟩<;>kernel_rfl
def jt:List RS:=[(.ops [bT,qc,ai,jG,xV,aV,Cw,G7,Jg,Qc]),(.cond (.v 6) [] [(.exit 0)]),(.block 1 [(.ops [bA,qc,ai,bT,oC,fC,bk,bA,IA,(.i .l (.call (.c (.fn 81 [] [])) [(.l 3),(.l 0)])),N6,dB])]),yz]
def wg:List RS:=[IP,(.ops [xD]),oe,(.block 0 [(.loop jt)]),wK,.ret]
theorem Ir:FnR Tryz.prog po 81 2 7 [0,1,2,4,5,6,16] wg [(.v 3)] true:=by refine⟨_,_,Tryz.func81,rfl,rfl,?_,?_,?_,?_,?_⟩<;>kernel_rfl
def cS:List RS:=[(.ops [iX,dQ,(.i (.v 22) Iq)]),(.cond (.v 22) [] [(.exit 1)]),(.block 2 [(.ops [bN,mp]),(.ops [iW,ai,yT,aV,(.g (.l 0) true .l (.mv (.v 9))),GD,(.i (.v 23) vP)]),(.cond (.v 23) [(.ops [mr,oF,mp])] []),(.ops [wU,B9,ai,iX,oC,fC,mr,(.i .l (.call (.c (.fn 110 [] [])) [(.l 6),(.l 1),(.l 0)])),mV]),(.ops [ni,(.i (.v 24) dT)]),(.cond (.v 24) [(.ops [ni,dw]),.ret] [])]),(.ops [iX,oF,nZ])]
def rg:List RS:=[(.ops [(.i (.v 3) (.box 1 (.v 0))),(.i (.v 4) (.box 4 (.v 1))),jF]),(.ops [iW,ai,(.i .l (.call (.c (.fn 125 [] [])) [(.l 0)])),dM]),(.ops [dQ,(.i (.v 12) BY)]),(.cond (.v 12) [(.ops [(.i (.v 5) yS)]),.ret] []),(.ops [B9,ai,jG,dQ,yr,aV,(.g (.l 0) false .l (.fad 2 (.v 4))),fG,(.g (.l 2) false .l dT),I2,(.g (.l 0) true .l (.fad 0 (.v 4))),lE,C0,Gf,(.i (.v 13) GP)]),(.cond (.v 13) [(.ops [xe]),.ret] []),(.ops [oR,jW]),(.ops [iW,(.i (.v 14) f9)]),(.block 0 [(.ops [(.i .l (.bin (.int .i64) .eql (.v 14) (.c (.int .i64 4)))),xB]),(.cond (.v 16) [(.ops [bN,gc,dE])] [(.ops [(.i .l (.bin (.int .i64) .eql (.v 14) (.c (.int .i64 6)))),mR]),(.cond (.v 17) [(.ops [(.i (.v 7) yh),(.i (.v 8) (.mv (.c (.int .i64 5))))])] [(.ops [(.i .l (.bin (.int .i64) .eql (.v 14) (.c (.int .i64 15)))),wQ]),(.cond (.v 18) [(.ops [(.i (.v 8) (.mv (.c (.int .i64 15))))])] [(.ops [(.i .l (.bin (.int .i64) .eql (.v 14) (.c (.int .i64 18)))),yZ]),(.cond (.v 19) [(.ops [g9,ai,jG,gc,dE])] [(.ops [jU,ai,CN]),(.cond (.v 15) [(.ops [xe]),.ret] [])])])])])]),(.ops [jU,ai,fx,Cv,aV,(.g (.l 0) false .l (.fad 1 (.v 4))),fG,(.g (.l 2) false .l (.mv (.v 8))),(.g (.l 3) false .l Dx),(.i (.v 20) qB)]),(.cond (.v 20) [(.ops [xj]),.ret] []),(.ops [iW,ai,yT,aV,Hk,IN,(.i (.v 21) vP)]),(.cond (.v 21) [(.ops [(.i (.v 5) (.mv (.c (.int .i64 3))))]),.ret] []),(.ops [pa]),(.block 1 [(.loop cS)]),oe,.ret]
theorem Cb:FnR Tryz.prog po 110 3 25 [0,1,2,3,4,6,7,8,9,10,11,12,17,32,34,37,38,42,44,46,61,68,71,81,93] rg [(.v 5)] true:=by refine⟨_,_,Tryz.func110,rfl,rfl,?_,?_,?_,?_,?_⟩<;>kernel_rfl
def gP:List RS:=[(.ops [bm,fT,ai,jG,(.i (.v 7) wE)]),(.cond (.v 7) [] [(.exit 0)]),(.block 1 [(.ops [fT,ai,bm,oC,fC,O8,Sc]),(.ops [zc,(.i .l (.call (.c (.fn 109 [] [])) [(.l 0),(.c (.int .i64 30))])),(.i (.v 8) Tx)]),(.cond (.v 8) [(.ops [bm,(.i .l (.call (.c (.fn 108 [] [])) [(.c (.int .i64 4)),(.l 0)])),pw]),.ret] []),(.ops [zc,(.i .l (.call (.c (.fn 81 [] [])) [(.l 0),(.c (.int .i64 120))])),(.i (.v 9) (.bin (.int .i64) .gtr (.l 0) (.c (.int .i64 120))))]),(.cond (.v 9) [(.ops [bm,(.i .l (.call (.c (.fn 108 [] [])) [(.c (.int .i64 3)),(.l 0)])),pw]),.ret] []),(.ops [G4,zc,(.i .l (.call (.c (.fn 110 [] [])) [(.l 1),(.l 0),(.c (.int .i64 0))])),dw]),(.ops [bT,(.i (.v 10) dT)]),(.cond (.v 10) [(.ops [bT,bm,(.i .l (.call (.c (.fn 108 [] [])) [(.l 1),(.l 0)])),pw]),.ret] [])]),qG]
def rh:List RS:=[(.ops [wc,HJ]),(.ops [fT,ai,jG,yR,aV,qP,fG,RH,NG,PM]),(.cond (.v 6) [(.ops [(.i .l (.call (.c (.fn 108 [] [])) [(.c (.int .i64 3)),(.c (.int .i64 (-1)))])),pw]),.ret] []),g8,(.block 0 [(.loop gP)]),(.ops [xI,pw]),.ret]
theorem CY:FnR Tryz.prog po 82 1 11 [0,1,2,3,4,5,15,21,31,36,43] rh [(.cell true 2 2)] true:=by refine⟨_,_,Tryz.func82,rfl,rfl,?_,?_,?_,?_,?_⟩<;>kernel_rfl
def fO:List RS:=[(.ops [bm,fT,ai,jG,GT]),(.cond (.v 5) [] [(.exit 0)]),(.block 1 [(.ops [fT,ai,bm,oC,fC,(.i .l (.call (.c (.fn 81 [] [])) [(.l 0),(.c (.int .i64 600))])),(.i (.v 6) (.bin (.int .i64) .gtr (.l 0) (.c (.int .i64 600))))]),(.cond (.v 6) [qD,.ret] [])]),qG]
def nY:List RS:=[(.ops [wc,ur]),(.ops [fT,ai,jG,(.i (.v 4) (.bin (.int .i64) .gtr (.l 0) (.c (.int .i64 20))))]),(.cond (.v 4) [qD,.ret] []),g8,(.block 0 [(.loop fO)]),d9,.ret]
theorem xT:FnR Tryz.prog po 43 1 7 [0,1,2,3,7,12,21] nY [(.v 2)] true:=by refine⟨_,_,Tryz.func43,rfl,rfl,?_,?_,?_,?_,?_⟩<;>kernel_rfl
def jx:List RS:=[(.ops [bA,(.i .l (.fad 3 (.v 1))),ai,jG,GT]),(.cond (.v 5) [] [(.exit 0)]),(.block 1 [(.ops [lL,ai,(.i .l (.fad 3 (.v 1))),ai,bA,oC,fC,PT,(.ck [⟨none,false,1,(.l 7),(.l 6)⟩]),Gt,(.ck [⟨none,false,1,(.l 8),(.l 7)⟩]),Ql,lL,pj])]),sW]
def yC:List RS:=[(.ops [(.i (.v 1) (.box 4 (.v 0))),(.i (.v 2) CO)]),(.ops [fT,ai,CL,ai,kJ,ai,(.i .l (.build [(.int .i64 0),(.int .i64 0),(.int .i64 0),.nils] [(0,1),(1,1),(2,1),(3,1)] [(0,(.l 4)),(1,(.l 2)),(2,(.l 0))])),(.i (.v 3) CO),(.i .n (.store 4 (.v 3) (.l 0)))]),lO,(.block 0 [(.loop jx)]),(.ops [(.i .l (.load true 4 (.v 3))),(.i .n (.store 4 (.v 2) (.l 0)))]),.ret]
theorem HV:FnR Tryz.prog po 111 1 6 [0,1,2,3,4,16] yC [(.cell true 4 2)] true:=by refine⟨_,_,Tryz.func111,rfl,rfl,?_,?_,?_,?_,?_⟩<;>kernel_rfl
def gU:List RS:=[(.ops [bA,fT,ai,jG,GT]),(.cond (.v 5) [] [(.exit 0)]),(.block 1 [(.ops [g9,ai,fT,ai,bA,oC,fC,PT,(.ck [⟨none,false,1,(.l 7),(.l 6)⟩]),Gt,(.ck [⟨none,false,1,(.l 8),(.l 7)⟩]),Ql,g9,pj])]),sW]
def rL:List RS:=[(.ops [wc,(.i (.v 2) (.alloc [.nils]))]),(.ops [(.i (.v 3) (.alloc [.nils]))]),lO,(.block 0 [(.loop gU)]),(.ops [wU,(.i .n (.store 1 (.v 2) (.l 0)))]),.ret]
theorem Cx:FnR Tryz.prog po 83 1 6 [0,1,2,3,4,9] rL [(.cell true 1 2)] true:=by refine⟨_,_,Tryz.func83,rfl,rfl,?_,?_,?_,?_,?_⟩<;>kernel_rfl
def K2:List RS:=[(.ops [(.i (.v 1) CO)]),(.ops [ay,(.i .l (.build [(.int .i64 0),(.int .i64 0),(.int .i64 0),.nils] [(0,1),(1,1),(2,1),(3,1)] [(0,(.c (.int .i64 2))),(2,(.l 0))])),(.i .n (.store 4 (.v 1) (.l 0)))]),.ret]
theorem UQ:FnR Tryz.prog po 41 1 2 [0,2] K2 [(.cell true 4 1)] true:=by refine⟨_,_,Tryz.func41,rfl,rfl,?_,?_,?_,?_,?_⟩<;>kernel_rfl
theorem ExL.len:∀ {l:List XD} {es:List (List AV)},ExL l es→es.length=l.length
 | [],es,h=>by
   simp only[ExL]at h
   subst h
   rfl
 | x::l,es,h=>by
   simp only[ExL]at h
   obtain⟨r,rs,rfl,_,h2⟩:=h
   simp[ExL.len h2]
theorem ExL.get:∀ {l:List XD} {es:List (List AV)} {i:Nat} {x:XD},ExL l es→l[i]? =some x→∃ r,es[i]? =some r∧ExA x r
 | [],es,i,x,h,hx=>by simp at hx
 | y::l,es,i,x,h,hx=>by
   simp only[ExL]at h
   obtain⟨r,rs,rfl,h1,h2⟩:=h
   cases i with
   | zero=>
     obtain rfl:y=x:=by simpa using hx
     exact⟨r,rfl,h1⟩
   | succ i=>simpa using ExL.get h2 (by simpa using hx)
theorem ExL.append {l:List XD} {es:List (List AV)} {x:XD} {r:List AV} (h:ExL l es) (hx:ExA x r):ExL (l++[x]) (es++[r]):=by
 induction l generalizing es with
 | nil=>
   simp only[ExL]at h
   subst h
   simp[ExL,hx]
 | cons y l ih=>
   simp only[ExL]at h
   obtain⟨q,rs,rfl,h1,h2⟩:=h
   exact⟨q,rs++[r],rfl,h1,ih h2⟩
theorem ExA.row {x:XD} {r:List AV} (h:ExA x r):∃ v es,r=[.int .i64 x.op,.int .i64 x.k,.int .i64 x.n,v]∧SlA tE v es∧ExL x.l es:=by
 cases x with
 | mk op k n l=>simp only[ExA]at h;exact h
theorem ExA.one {x:XD} {r:List AV} (h:ExA x r):r.all AV.one=true∧r.length=4:=by
 obtain⟨v,es,rfl,hv,_⟩:=h.row
 rcases hv with⟨_,rfl⟩ | ⟨id,rfl⟩<;>exact⟨rfl,rfl⟩
theorem ExA.facts {x:XD} {r:List AV} (h:ExA x r):∃ v es,r=[.int .i64 x.op,.int .i64 x.k,.int .i64 x.n,v]∧IsL tE v es∧v.one=true∧es.length=x.l.length∧
  ∀ (i:Nat) (y:XD),x.l[i]? =some y→∃ q,bL (some tE) none v (.int .i64 (i:Int))=some (.ip q 0)∧ldA true 4 q 0=some (.agg q)∧ExA y q:=by
 obtain⟨v,es,rfl,hv,hl⟩:=h.row
 refine⟨v,es,rfl,hv.isL,?_,hl.len,fun i y hy=> ?_⟩
 ·rcases hv with⟨_,rfl⟩ | ⟨id,rfl⟩<;>rfl
 ·obtain⟨q,h1,h2⟩:=hl.get hy
  exact⟨q,hv.isL.ix .i64 i q h1,bi h2.one.2,h2⟩
mutual
theorem WC:∀ {x:XD} {r:List AV},ExA x r→∃ r',wkL r=some r'∧ExA x r'
 | .mk op k n l,r,h=>by
   simp only[ExA]at h
   obtain⟨v,es,rfl,hv,hl⟩:=h
   obtain⟨es',h1,h2⟩:=Ji hl
   rcases hv with⟨rfl,rfl⟩ | ⟨id,rfl⟩
   ·exact⟨_,rfl,by simp only[ExA];exact⟨_,[],rfl,.inl ⟨rfl,rfl⟩,hl⟩⟩
   ·refine⟨[.int .i64 op,.int .i64 k,.int .i64 n,.isl none tE es'],?_,?_⟩
    ·simp only[wkL,wkA,h1,Option.map_some]
    ·simp only[ExA]
     exact⟨_,es',rfl,.inr ⟨_,rfl⟩,h2⟩
theorem Ji:∀ {l:List XD} {es:List (List AV)},ExL l es→∃ es',wkR es=some es'∧ExL l es'
 | [],es,h=>by
   simp only[ExL]at h
   subst h
   exact⟨[],rfl,rfl⟩
 | x::l,es,h=>by
   simp only[ExL]at h
   obtain⟨r,rs,rfl,h1,h2⟩:=h
   obtain⟨r',q1,q2⟩:=WC h1
   obtain⟨rs',q3,q4⟩:=Ji h2
   exact⟨r'::rs',by simp only[wkR,q1,q3],by simp only[ExL];exact⟨r',rs',rfl,q2,q4⟩⟩
end
theorem Yg:ns Tryz.prog tE=some [3,3,2,78]:=by kernel_rfl
theorem ZV:(Tryz.prog).underlying 3=some (.int .i64):=by kernel_rfl
theorem X4:(Tryz.prog).underlying 2=some (.int .i64):=by kernel_rfl
theorem RL:(Tryz.prog).underlying 78=some (.slice tE):=by kernel_rfl
theorem Zf:∀ (n:Nat) (r:List AV),TyA Tryz.prog n tE r→∃ x,ExA x r:=by
 intro n
 induction n using Nat.strongRecOn with
 | ind n ih=>
   intro r h
   obtain⟨m,rfl,parts,rfl,hl,hf⟩:=mc Yg h
   obtain⟨p0,a0,_,b0⟩:=hf 0 _ rfl
   obtain⟨p1,a1,_,b1⟩:=hf 1 _ rfl
   obtain⟨p2,a2,_,b2⟩:=hf 2 _ rfl
   obtain⟨p3,a3,_,b3⟩:=hf 3 _ rfl
   obtain⟨op,rfl,_⟩:=iV ZV b0
   obtain⟨k,rfl,_⟩:=iV ZV b1
   obtain⟨z,rfl,_⟩:=iV X4 b2
   obtain⟨m',v,es,rfl,rfl,hv,_,hr⟩:=ub RL b3
   obtain⟨c0,c1,c2,c3,rfl⟩:=VP hl
   simp only[List.getElem?_cons_zero,List.getElem?_cons_succ,Option.some.injEq]at a0 a1 a2 a3
   subst a0 a1 a2 a3
   have key:∀ es:List (List AV),(∀ r∈es,∃ x,ExA x r)→∃ l,ExL l es:=by
    intro es
    induction es with
    | nil=>intro _;exact⟨[],rfl⟩
    | cons r es ih2=>
      intro hh
      obtain⟨x,hx⟩:=hh r (by simp)
      obtain⟨l,hl⟩:=ih2 fun q hq=>hh q (by simp[hq])
      exact⟨x::l,by simp only[ExL];exact⟨r,es,rfl,hx,hl⟩⟩
   obtain⟨l,hl⟩:=key es fun r hr'=>ih m' (by omega) r (hr r hr').2
   exact⟨.mk op k z l,by simp only[ExA];exact⟨v,es,rfl,hv.sla,hl⟩⟩
def NV (l:List XD) (r:List AV):Prop:=∃ v es,r=[v]∧SlA tE v es∧ExL l es
theorem Zo:ns Tryz.prog 80=some [78]:=by kernel_rfl
theorem XW {n:Nat} {r:List AV} (h:TyA Tryz.prog n 80 r):∃ l,NV l r:=by
 obtain⟨m,rfl,parts,rfl,hl,hf⟩:=mc Zo h
 obtain⟨p0,a0,_,b0⟩:=hf 0 _ rfl
 obtain⟨m',v,es,rfl,rfl,hv,_,hr⟩:=ub RL b0
 obtain⟨c0,rfl⟩:=ZL hl
 simp only[List.getElem?_cons_zero,Option.some.injEq]at a0
 subst a0
 have key:∀ es:List (List AV),(∀ r∈es,∃ x,ExA x r)→∃ l,ExL l es:=by
  intro es
  induction es with
  | nil=>intro _;exact⟨[],rfl⟩
  | cons r es ih2=>
    intro hh
    obtain⟨x,hx⟩:=hh r (by simp)
    obtain⟨l,hl⟩:=ih2 fun q hq=>hh q (by simp[hq])
    exact⟨x::l,by simp only[ExL];exact⟨r,es,rfl,hx,hl⟩⟩
 obtain⟨l,hl⟩:=key es fun r hr'=>Zf m' r (hr r hr').2
 exact⟨l,v,es,rfl,hv.sla,hl⟩
section
variable {h:AH}
theorem Ev {op:Int} (h1:¬ op<1) (h2:¬ 21<op):op=1∨op=2∨op=3∨op=4∨op=5∨op=6∨op=7∨op=8∨op=9∨op=10∨op=11∨op=12∨op=13∨op=14∨op=15∨op=16∨op=17∨op=18∨op=19∨op=20∨op=21:=by omega
theorem Uj (op:Int):aj Tryz.prog po 123 [.int .i64 op] h=some (.inl (.int .i64 (bh op)),h):=by
 refine ag MU rfl ?_;unfold A8
 by_cases h1:op<1
 ·have:bh op= -1:=by unfold bh;split<;>omega
  simp only[sim,af,θ,ξ,η,reduceCtorEq,ψ,ω,aa,h1,this,aI (ab.refl h) (rfl:wkA (.int .i64 (-1))=_)]
 ·by_cases h2:21<op
  ·have:bh op= -1:=by unfold bh;split<;>omega
   simp only[sim,af,θ,ξ,η,reduceCtorEq,ψ,ω,aa,h1,h2,this,aI (ab.refl h) (rfl:wkA (.int .i64 (-1))=_)]
  ·have hix:ixR false (some (22,(1,false))) (.agg [(.int .i64 0),(.int .i64 0),(.int .i64 0),(.int .i64 0),(.int .i64 0),(.int .i64 2),(.int .i64 2),(.int .i64 3),(.int .i64 2),(.int .i64 1),(.int .i64 1),(.int .i64 1),(.int .i64 1),(.int .i64 1),(.int .i64 2),(.int .i64 1),(.int .i64 1),(.int .i64 1),(.int .i64 1),(.int .i64 2),(.int .i64 1),(.int .i64 0)]) (.int .i64 op)=some (.int .i64 (bh op)):=by
    rcases Ev h1 h2 with rfl | rfl | rfl | rfl | rfl | rfl | rfl | rfl | rfl | rfl | rfl | rfl | rfl | rfl | rfl | rfl | rfl | rfl | rfl | rfl | rfl<;>rfl
   simp only[sim,af,θ,ξ,η,reduceCtorEq,ψ,ω,aa,h1,h2,hix]
end
section
variable {h:AH}
theorem Cu (x:XD) (v:AV) (es:List (List AV)) (hl:IsL tE v es) (hn:es.length=x.l.length) (hv:v.one=true) (most:Int) (h0:0≤most) (hm:most≤100000)
  (hix:∀ (i:Nat) (y:XD),x.l[i]? =some y→∃ q,bL (some tE) none v (.int .i64 (i:Int))=some (.ip q 0)∧ldA true 4 q 0=some (.agg q)∧ExA y q)
  (hc:∀ y∈x.l,∀ (q:List AV) (h:AH) (m:Int),ExA y q→0≤m→m≤100000→aj Tryz.prog po 81 [.agg q,.int .i64 m] h=some (.inl (.int .i64 (min (y.size:Int) (m+1))),h))
  (v0 v3:AV) (K:List RK):∀ (l pre:List XD) (v6:AV),x.l=pre++l→
  ∃ w5 w6,aC (aj Tryz.prog po) 7 (.lp jt:: .ss []:: .blk 0::K) [v0,.int .i64 most,.ptr h.n 0 0,v3,.int .i64 (min (1+(bc pre:Int)) (most+1)),.int .i64 pre.length,v6] [] (h.push [[.int .i64 x.op,.int .i64 x.k,.int .i64 x.n,v]])=
    aC (aj Tryz.prog po) 7 K [v0,.int .i64 most,.ptr h.n 0 0,v3,.int .i64 (min (x.size:Int) (most+1)),w5,w6] [] (h.push [[.int .i64 x.op,.int .i64 x.k,.int .i64 x.n,v]]):=by
 intro l
 induction l with
 | nil=>
   intro pre v6 e
   have e':x.l=pre:=by simpa using e
   have hlt:¬ ((pre.length:Int)<(es.length:Int)):=by rw[hn,e'];omega
   refine⟨.int .i64 pre.length,.bool false,?_⟩
   rw[aG jt.eq_1]
   have es:(1+(bc pre:Int))=(x.size:Int):=by rw[x.size_eq,e'];omega
   simp only[sim,af,θ,ξ,η,reduceCtorEq,ψ,ω,aa,hl.len,hl.fits,hlt,es]
 | cons y l ih=>
   intro pre v6 e
   have hlt:(pre.length:Int)<(es.length:Int):=by rw[hn,e];simp;omega
   obtain⟨q,i1,i2,i3⟩:=hix pre.length y (by rw[e];simp)
   have hsz:(x.size:Int)=1+(bc pre:Int)+(y.size:Int)+(bc l:Int):=by rw[x.size_eq,e,gL];simp[bc];omega
   have hyp:=y.size_pos
   have hlen:=x.len_size
   rw[aG jt.eq_1]
   by_cases hle:min (1+(bc pre:Int)) (most+1)≤most
   ·have hmin:min (1+(bc pre:Int)) (most+1)=1+(bc pre:Int):=by omega
    rw[hmin]at hle
    have hpl:(pre.length:Int)≤bc pre:=by
     have:∀ l:List XD,l.length≤bc l:=by
      intro l
      induction l with
      | nil=>simp
      | cons y l ih=>
        have:=y.size_pos
        simp only[bc,List.length_cons]
        omega
     have:=this pre
     omega
    have hw1:=w64 (n:=most - (1+(bc pre:Int))) (by omega) (by omega)
    have hw2:=w64 (n:=(1+(bc pre:Int))+min (y.size:Int) (most - (1+(bc pre:Int))+1)) (by omega) (by omega)
    have hw3:=w64 (n:=(pre.length:Int)+1) (by omega) (by omega)
    have cy:=hc y (by rw[e];simp) q (h.push [[.int .i64 x.op,.int .i64 x.k,.int .i64 x.n,v]]) (most - (1+(bc pre:Int))) i3 (by omega) (by omega)
    obtain⟨w5,w6,r1⟩:=ih (pre++[y]) (.bool true) (by simp[e])
    have e2:((pre++[y]).length:Int)=(pre.length:Int)+1:=by simp
    have e3:min (1+(bc (pre++[y]):Int)) (most+1)=(1+(bc pre:Int))+min (y.size:Int) (most - (1+(bc pre:Int))+1):=by
     rw[gL,yo]
     omega
    rw[e2,e3]at r1
    refine⟨w5,w6,?_⟩
    simp only[sim,af,θ,ξ,η,reduceCtorEq,ψ,ω,aa,hl.len,hl.fits,hlt,hmin,hle,i1,i2,hw1,cy,hw2,hw3]
    exact r1
   ·have hmin:min (1+(bc pre:Int)) (most+1)=most+1:=by omega
    have hmin2:min (x.size:Int) (most+1)=most+1:=by omega
    have hgt:¬ (most+1≤most):=by omega
    refine⟨.int .i64 pre.length,.bool false,?_⟩
    simp only[sim,af,θ,ξ,η,reduceCtorEq,ψ,ω,aa,hl.len,hl.fits,hlt,hmin,hmin2,hgt]
theorem uS:∀ (N:Nat) (x:XD),SizeOf.sizeOf x≤N→∀ (r:List AV) (h:AH) (most:Int),ExA x r→0≤most→most≤100000→
  aj Tryz.prog po 81 [.agg r,.int .i64 most] h=some (.inl (.int .i64 (min (x.size:Int) (most+1))),h):=by
 intro N
 induction N with
 | zero=>intro x hx;have:=x.so_pos;omega
 | succ N ih=>
   intro x hx r h most he h0 hm
   obtain⟨v,es,rfl,hl,hv,hn,hix⟩:=he.facts
   obtain⟨w5,w6,r1⟩:=Cu (h:=h) x v es hl hn hv most h0 hm hix (fun y hy q h m hq=>ih y (by have:=XD.lt_mem hy;omega) q h m hq) (.agg [.int .i64 x.op,.int .i64 x.k,.int .i64 x.n,v]) (.int .i64 0) [.ss [.ops [bA,cV],.ret]] x.l [] .junk rfl
   have em:min (1+(bc []:Int)) (most+1)=1:=by simp only[bc];omega
   rw[em]at r1
   simp only[List.length_nil,Int.natCast_zero]at r1
   refine ag Ir rfl ?_;unfold wg
   simp only[sim,af,θ,ξ,η,reduceCtorEq,ψ,ω,aa,hv,r1,aI (ab.push h _) (rfl:wkA (.int .i64 (min (x.size:Int) (most+1)))=_)]
theorem FL (x:XD) (v:AV) (es:List (List AV)) (hl:IsL tE v es) (hn:es.length=x.l.length) (hv:v.one=true) (most:Int) (h0:0≤most) (hm:most≤100000) (hf:x.l.length≤100000)
  (hix:∀ (i:Nat) (y:XD),x.l[i]? =some y→∃ q,bL (some tE) none v (.int .i64 (i:Int))=some (.ip q 0)∧ldA true 4 q 0=some (.agg q)∧ExA y q)
  (hc:∀ y∈x.l,∀ (q:List AV) (h:AH) (m:Int),ExA y q→0≤m→m≤100000→aj Tryz.prog po 109 [.agg q,.int .i64 m] h=some (.inl (.int .i64 (min (y.depth:Int) (m+1))),h))
  (v0 v3:AV) (K:List RK):∀ (l pre:List XD) (v6 v7 v8 v9:AV),x.l=pre++l→
  ∃ w5 w6 w7 w8 w9,aC (aj Tryz.prog po) 10 (.lp j8:: .ss []:: .blk 0::K) [v0,.int .i64 most,.ptr h.n 0 0,v3,.int .i64 (min (bD pre:Int) (most+1)),.int .i64 pre.length,v6,v7,v8,v9] [] (h.push [[.int .i64 x.op,.int .i64 x.k,.int .i64 x.n,v]])=
    aC (aj Tryz.prog po) 10 K [v0,.int .i64 most,.ptr h.n 0 0,v3,.int .i64 (min (x.depth:Int) (most+1)),w5,w6,w7,w8,w9] [] (h.push [[.int .i64 x.op,.int .i64 x.k,.int .i64 x.n,v]]):=by
 intro l
 induction l with
 | nil=>
   intro pre v6 v7 v8 v9 e
   have e':x.l=pre:=by simpa using e
   have hlt:¬ ((pre.length:Int)<(es.length:Int)):=by rw[hn,e'];omega
   refine⟨.int .i64 pre.length,v6,.bool false,v8,v9,?_⟩
   rw[aG j8.eq_1]
   have es:bD pre=x.depth:=by rw[x.depth_eq,e']
   simp only[sim,af,θ,ξ,η,reduceCtorEq,ψ,ω,aa,hl.len,hl.fits,hlt,es]
 | cons y l ih=>
   intro pre v6 v7 v8 v9 e
   have hlt:(pre.length:Int)<(es.length:Int):=by rw[hn,e];simp;omega
   obtain⟨q,i1,i2,i3⟩:=hix pre.length y (by rw[e];simp)
   have hdx:x.depth=max (bD pre) (max (1+y.depth) (bD l)):=by rw[x.depth_eq,e,kL];simp[bD]
   have hpl:pre.length≤100000:=by rw[e]at hf;simp at hf;omega
   have hw3:=w64 (n:=(pre.length:Int)+1) (by omega) (by omega)
   rw[aG j8.eq_1]
   by_cases hle:min (bD pre:Int) (most+1)≤most
   ·have hmin:min (bD pre:Int) (most+1)=(bD pre:Int):=by omega
    rw[hmin]at hle
    obtain⟨w5,w6,w7,w8,w9,r1⟩:=ih (pre++[y]) (.int .i64 (1+min (y.depth:Int) most)) (.bool true) (.bool (decide (0<most))) (.bool (decide ((bD pre:Int)<1+min (y.depth:Int) most))) (by simp[e])
    have e2:((pre++[y]).length:Int)=(pre.length:Int)+1:=by simp
    have e3:min (bD (pre++[y]):Int) (most+1)=max (bD pre:Int) (1+min (y.depth:Int) most):=by
     rw[kL,Fa]
     omega
    rw[e2,e3]at r1
    have hw2:=w64 (n:=1+min (y.depth:Int) most) (by omega) (by omega)
    refine⟨w5,w6,w7,w8,w9,?_⟩
    by_cases hp:0<most
    ·have hw1:=w64 (n:=most - 1) (by omega) (by omega)
     have cy:=hc y (by rw[e];simp) q (h.push [[.int .i64 x.op,.int .i64 x.k,.int .i64 x.n,v]]) (most - 1) i3 (by omega) (by omega)
     rw[show most - 1+1=most by omega]at cy
     by_cases hb:(bD pre:Int)<1+min (y.depth:Int) most
     ·have e4:max (bD pre:Int) (1+min (y.depth:Int) most)=1+min (y.depth:Int) most:=by omega
      simp only[hp,hb,e4,decide_true]at r1
      simp only[sim,af,θ,ξ,η,reduceCtorEq,ψ,ω,aa,hl.len,hl.fits,hlt,hmin,hle,hp,i1,i2,hw1,cy,hw2,hb,hw3]
      exact r1
     ·have e4:max (bD pre:Int) (1+min (y.depth:Int) most)=(bD pre:Int):=by omega
      simp only[hp,hb,e4,decide_true,decide_false]at r1
      simp only[sim,af,θ,ξ,η,reduceCtorEq,ψ,ω,aa,hl.len,hl.fits,hlt,hmin,hle,hp,i1,i2,hw1,cy,hw2,hb,hw3]
      exact r1
    ·have hz:min (y.depth:Int) most=0:=by omega
     rw[hz]at r1
     simp only[Int.add_zero]at r1
     by_cases hb:(bD pre:Int)<1
     ·have e4:max (bD pre:Int) 1=1:=by omega
      simp only[hp,hb,e4,decide_true,decide_false]at r1
      simp only[sim,af,θ,ξ,η,reduceCtorEq,ψ,ω,aa,hl.len,hl.fits,hlt,hmin,hle,hp,hb,hw3]
      exact r1
     ·have e4:max (bD pre:Int) 1=(bD pre:Int):=by omega
      simp only[hp,hb,e4,decide_false]at r1
      simp only[sim,af,θ,ξ,η,reduceCtorEq,ψ,ω,aa,hl.len,hl.fits,hlt,hmin,hle,hp,hb,hw3]
      exact r1
   ·have hmin:min (bD pre:Int) (most+1)=most+1:=by omega
    have hmin2:min (x.depth:Int) (most+1)=most+1:=by omega
    have hgt:¬ (most+1≤most):=by omega
    refine⟨.int .i64 pre.length,v6,.bool false,v8,v9,?_⟩
    simp only[sim,af,θ,ξ,η,reduceCtorEq,ψ,ω,aa,hl.len,hl.fits,hlt,hmin,hmin2,hgt]
theorem XD.size_mem {x y:XD} (h:y∈x.l):y.size<x.size:=by
 have:∀ l:List XD,y∈l→y.size≤bc l:=by
  intro l
  induction l with
  | nil=>intro hm;simp at hm
  | cons z l ih=>
    intro hm
    simp only[bc]
    rcases List.mem_cons.1 hm with rfl | hm
    ·omega
    ·have:=ih hm;omega
 have:=this x.l h
 rw[x.size_eq]
 omega
theorem Ie:∀ (N:Nat) (x:XD),SizeOf.sizeOf x≤N→x.size≤100000→∀ (r:List AV) (h:AH) (most:Int),ExA x r→0≤most→most≤100000→
  aj Tryz.prog po 109 [.agg r,.int .i64 most] h=some (.inl (.int .i64 (min (x.depth:Int) (most+1))),h):=by
 intro N
 induction N with
 | zero=>intro x hx;have:=x.so_pos;omega
 | succ N ih=>
   intro x hx hsz r h most he h0 hm
   obtain⟨v,es,rfl,hl,hv,hn,hix⟩:=he.facts
   have hlen:=x.len_size
   obtain⟨w5,w6,w7,w8,w9,r1⟩:=FL (h:=h) x v es hl hn hv most h0 hm (by omega) hix (fun y hy q h m hq=>ih y (by have:=XD.lt_mem hy;omega) (by have:=XD.size_mem hy;omega) q h m hq) (.agg [.int .i64 x.op,.int .i64 x.k,.int .i64 x.n,v]) (.int .i64 0) [.ss [.ops [bA,cV],.ret]] x.l [] .junk .junk .junk .junk rfl
   have em:min (bD []:Int) (most+1)=0:=by simp only[bD];omega
   rw[em]at r1
   simp only[List.length_nil,Int.natCast_zero]at r1
   refine ag MC rfl ?_;unfold Bd
   simp only[sim,af,θ,ξ,η,reduceCtorEq,ψ,ω,aa,hv,r1,aI (ab.push h _) (rfl:wkA (.int .i64 (min (x.depth:Int) (most+1)))=_)]
theorem ER (x:XD) (v:AV) (es:List (List AV)) (hl:IsL tE v es) (hn:es.length=x.l.length) (hv:v.one=true) (c:Int) (h0:0≤c) (hm:c≤100000)
  (hix:∀ (i:Nat) (y:XD),x.l[i]? =some y→∃ q,bL (some tE) none v (.int .i64 (i:Int))=some (.ip q 0)∧ldA true 4 q 0=some (.agg q)∧ExA y q)
  (hc:∀ y∈x.l,∀ (q:List AV) (h:AH) (m:Int),ExA y q→0≤m→m≤100000→aj Tryz.prog po 105 [.agg q,.int .i64 m] h=some (.inl (.int .i64 (max (m - y.size) (-1))),h))
  (v0 v3:AV) (K:List RK):∀ (l pre:List XD) (v5:AV),x.l=pre++l→
  ∃ w4 w5,aC (aj Tryz.prog po) 6 (.lp kj:: .ss []:: .blk 0::K) [v0,.int .i64 (max (c - 1 - bc pre) (-1)),.ptr h.n 0 0,v3,.int .i64 pre.length,v5] [] (h.push [[.int .i64 x.op,.int .i64 x.k,.int .i64 x.n,v]])=
    aC (aj Tryz.prog po) 6 K [v0,.int .i64 (max (c - x.size) (-1)),.ptr h.n 0 0,v3,w4,w5] [] (h.push [[.int .i64 x.op,.int .i64 x.k,.int .i64 x.n,v]]):=by
 intro l
 induction l with
 | nil=>
   intro pre v5 e
   have e':x.l=pre:=by simpa using e
   have hlt:¬ ((pre.length:Int)<(es.length:Int)):=by rw[hn,e'];omega
   refine⟨.int .i64 pre.length,.bool false,?_⟩
   rw[aG kj.eq_1]
   have es:c - 1 - (bc pre:Int)=c - x.size:=by rw[x.size_eq,e'];omega
   simp only[sim,af,θ,ξ,η,reduceCtorEq,ψ,ω,aa,hl.len,hl.fits,hlt,es]
 | cons y l ih=>
   intro pre v5 e
   have hlt:(pre.length:Int)<(es.length:Int):=by rw[hn,e];simp;omega
   obtain⟨q,i1,i2,i3⟩:=hix pre.length y (by rw[e];simp)
   have hsz:(x.size:Int)=1+(bc pre:Int)+(y.size:Int)+(bc l:Int):=by rw[x.size_eq,e,gL];simp[bc];omega
   have hyp:=y.size_pos
   rw[aG kj.eq_1]
   by_cases hle:0≤max (c - 1 - (bc pre:Int)) (-1)
   ·have hmin:max (c - 1 - (bc pre:Int)) (-1)=c - 1 - (bc pre:Int):=by omega
    rw[hmin]at hle
    have hpl:(pre.length:Int)≤bc pre:=by
     have:∀ l:List XD,l.length≤bc l:=by
      intro l
      induction l with
      | nil=>simp
      | cons y l ih=>
        have:=y.size_pos
        simp only[bc,List.length_cons]
        omega
     have:=this pre
     omega
    have hw3:=w64 (n:=(pre.length:Int)+1) (by omega) (by omega)
    have cy:=hc y (by rw[e];simp) q (h.push [[.int .i64 x.op,.int .i64 x.k,.int .i64 x.n,v]]) (c - 1 - (bc pre:Int)) i3 (by omega) (by omega)
    obtain⟨w4,w5,r1⟩:=ih (pre++[y]) (.bool true) (by simp[e])
    have e2:((pre++[y]).length:Int)=(pre.length:Int)+1:=by simp
    have e3:max (c - 1 - (bc (pre++[y]):Int)) (-1)=max (c - 1 - (bc pre:Int) - (y.size:Int)) (-1):=by
     rw[gL,yo]
     omega
    rw[e2,e3]at r1
    refine⟨w4,w5,?_⟩
    simp only[sim,af,θ,ξ,η,reduceCtorEq,ψ,ω,aa,hl.len,hl.fits,hlt,hmin,hle,i1,i2,cy,hw3]
    exact r1
   ·have hmin:max (c - 1 - (bc pre:Int)) (-1)= -1:=by omega
    have hmin2:max (c - (x.size:Int)) (-1)= -1:=by omega
    have hgt:¬ ((0:Int)≤ -1):=by omega
    refine⟨.int .i64 pre.length,.bool false,?_⟩
    simp only[sim,af,θ,ξ,η,reduceCtorEq,ψ,ω,aa,hl.len,hl.fits,hlt,hmin,hmin2,hgt]
theorem HE:∀ (N:Nat) (x:XD),SizeOf.sizeOf x≤N→∀ (r:List AV) (h:AH) (c:Int),ExA x r→0≤c→c≤100000→
  aj Tryz.prog po 105 [.agg r,.int .i64 c] h=some (.inl (.int .i64 (max (c - x.size) (-1))),h):=by
 intro N
 induction N with
 | zero=>intro x hx;have:=x.so_pos;omega
 | succ N ih=>
   intro x hx r h c he h0 hm
   obtain⟨v,es,rfl,hl,hv,hn,hix⟩:=he.facts
   obtain⟨w4,w5,r1⟩:=ER (h:=h) x v es hl hn hv c h0 hm hix (fun y hy q h m hq=>ih y (by have:=XD.lt_mem hy;omega) q h m hq) (.agg [.int .i64 x.op,.int .i64 x.k,.int .i64 x.n,v]) (.int .i64 0) [.ss [.ops [bk,cV],.ret]] x.l [] .junk rfl
   have em:max (c - 1 - (bc []:Int)) (-1)=c - 1:=by simp only[bc];omega
   rw[em]at r1
   simp only[List.length_nil,Int.natCast_zero]at r1
   have hw:=w64 (n:=c - 1) (by omega) (by omega)
   refine ag Lw rfl ?_;unfold AF
   simp only[sim,af,θ,ξ,η,reduceCtorEq,ψ,ω,aa,hv,hw,r1,aI (ab.push h _) (rfl:wkA (.int .i64 (max (c - x.size) (-1)))=_)]
end
structure gk (h:AH) (v:AV) (l:List XD):Prop where
 len:eW v=some l.length
 fits:∀ s,ew s (some tE) v=true
 one:v.one=true
 ix:∀ (i:Nat) (y:XD),l[i]? =some y→∃ a q,bL (some tE) none v (.int .i64 (i:Int))=some a∧(∀ h',ab h h'→aR true 4 h' a=some (.agg q))∧ExA y q
theorem gk.of {h:AH} {v:AV} {es:List (List AV)} {l:List XD} (hv:SlA tE v es) (hl:ExL l es):gk h v l:=by
 refine⟨?_,hv.isL.fits,?_,fun i y hy=> ?_⟩
 ·rw[←hl.len];exact hv.isL.len
 ·rcases hv with⟨_,rfl⟩ | ⟨id,rfl⟩<;>rfl
 ·obtain⟨q,h1,h2⟩:=hl.get hy
  exact⟨.ip q 0,q,hv.isL.ix .i64 i q h1,fun h' _=>bi h2.one.2,h2⟩
section
variable {h:AH}
theorem LY (op:Int):aj Tryz.prog po 125 [.int .i64 op] h=some (.inl (.int .i64 (bh op)),h):=by
 refine ag GB rfl ?_;unfold wH
 by_cases h1:op<1
 ·have hn:∀ k:Int,1≤k→decide (op=k)=false:=fun k hk=>by rw[decide_eq_false_iff_not];omega
  have:bh op= -1:=by unfold bh;split<;>omega
  simp only[sim,af,θ,ξ,η,reduceCtorEq,ψ,ω,aa,this,hn 1 (by omega),hn 2 (by omega),hn 3 (by omega),hn 4 (by omega),hn 5 (by omega),hn 6 (by omega),hn 7 (by omega),hn 8 (by omega),hn 9 (by omega),hn 10 (by omega),hn 11 (by omega),hn 12 (by omega),hn 13 (by omega),hn 14 (by omega),hn 15 (by omega),hn 16 (by omega),hn 17 (by omega),hn 18 (by omega),hn 19 (by omega),hn 20 (by omega),hn 21 (by omega)]
 ·by_cases h2:21<op
  ·have hn:∀ k:Int,k≤21→decide (op=k)=false:=fun k hk=>by rw[decide_eq_false_iff_not];omega
   have:bh op= -1:=by unfold bh;split<;>omega
   simp only[sim,af,θ,ξ,η,reduceCtorEq,ψ,ω,aa,this,hn 1 (by omega),hn 2 (by omega),hn 3 (by omega),hn 4 (by omega),hn 5 (by omega),hn 6 (by omega),hn 7 (by omega),hn 8 (by omega),hn 9 (by omega),hn 10 (by omega),hn 11 (by omega),hn 12 (by omega),hn 13 (by omega),hn 14 (by omega),hn 15 (by omega),hn 16 (by omega),hn 17 (by omega),hn 18 (by omega),hn 19 (by omega),hn 20 (by omega),hn 21 (by omega)]
  ·rcases Ev h1 h2 with rfl | rfl | rfl | rfl | rfl | rfl | rfl | rfl | rfl | rfl | rfl | rfl | rfl | rfl | rfl | rfl | rfl | rfl | rfl | rfl | rfl<;>
    (simp only[sim,af,θ,ξ,η,reduceCtorEq,ψ,ω,aa,Int.reduceEq];rfl)
theorem xH (c a:Int):aj Tryz.prog po 108 [.int .i64 c,.int .i64 a] h=some (.inl (.agg [.int .i64 c,.int .i64 a]),h):=by
 refine ag Zg rfl ?_;unfold VX
 simp only[sim,af,θ,ξ,η,reduceCtorEq,ψ,ω,aa,aI (ab.push h _) (rfl:wkA (.agg [.int .i64 c,.int .i64 a])=_)]
theorem Rw (n:Int):aj Tryz.prog po 41 [.int .i64 n] h=some (.inl (.agg [.int .i64 2,.int .i64 0,.int .i64 n,.nils]),h):=by
 refine ag UQ rfl ?_;unfold K2
 simp only[sim,af,θ,ξ,η,reduceCtorEq,ψ,ω,aa,aI (ab.push h _) (rfl:wkA (.agg [.int .i64 2,.int .i64 0,.int .i64 n,.nils])=_)]
theorem HW (v:AV) (L:List XD) (hv:gk h v L) (hL:L.length≤20) (v0 v4:AV):∀ (l pre:List XD) (v5 v6:AV),L=pre++l→
  cFR true [.v 2] h (aC (aj Tryz.prog po) 7 [.lp fO,.ss [],.blk 0,.ss [.ops [ur],.ret]] [v0,.ptr h.n 0 0,.bool false,.int .i64 pre.length,v4,v5,v6] [] (h.push [[v]]))=
   some (.inl (.bool (l.any fun x=>decide (600<x.size))),h):=by
 intro l
 induction l with
 | nil=>
   intro pre v5 v6 e
   have e':L=pre:=by simpa using e
   have hlt:¬ ((pre.length:Int)<(L.length:Int)):=by rw[e'];omega
   rw[aG fO.eq_1]
   simp only[sim,af,θ,ξ,η,reduceCtorEq,ψ,ω,aa,hv.len,hv.fits,hlt,List.any_nil,aI (ab.push h _) (rfl:wkA (.bool false)=_)]
 | cons y l ih=>
   intro pre v5 v6 e
   have hlt:(pre.length:Int)<(L.length:Int):=by rw[e];simp;omega
   obtain⟨a,q,i1,i2,i3⟩:=hv.ix pre.length y (by rw[e];simp)
   have i2':=i2 _ (ab.push h [[v]])
   have cy:=uS _ y (Nat.le_refl _) q (h.push [[v]]) 600 i3 (by omega) (by omega)
   have hw:=w64 (n:=(pre.length:Int)+1) (by rw[e]at hL;simp at hL;omega) (by rw[e]at hL;simp at hL;omega)
   rw[aG fO.eq_1]
   by_cases hb:600<y.size
   ·have hb2:(600:Int)<min (y.size:Int) (600+1):=by omega
    simp only[sim,af,θ,ξ,η,reduceCtorEq,ψ,ω,aa,hv.len,hv.fits,hlt,i1,i2',cy,hb2,List.any_cons,hb,aI (ab.push h _) (rfl:wkA (.bool true)=_)]
   ·have hb2:¬ (600:Int)<min (y.size:Int) (600+1):=by omega
    have r1:=ih (pre++[y]) (.bool true) (.bool false) (by simp[e])
    have e2:((pre++[y]).length:Int)=(pre.length:Int)+1:=by simp
    rw[e2]at r1
    simp only[sim,af,θ,ξ,η,reduceCtorEq,ψ,ω,aa,hv.len,hv.fits,hlt,i1,i2',cy,hb2,List.any_cons,hb,hw]
    exact r1
theorem M1 (v:AV) (L:List XD) (hv:gk h v L):aj Tryz.prog po 43 [.agg [v]] h=some (.inl (.bool (jg L)),h):=by
 refine ag xT rfl ?_;unfold nY
 have h1:=hv.one
 by_cases hb:20<L.length
 ·have hb2:(20:Int)<(L.length:Int):=by omega
  simp only[sim,af,θ,ξ,η,reduceCtorEq,ψ,ω,aa,h1,hv.len,hv.fits,hb2,jg,hb,aI (ab.push h _) (rfl:wkA (.bool true)=_)]
 ·have hb2:¬ (20:Int)<(L.length:Int):=by omega
  have r1:=HW v L hv (by omega) (.agg [v]) (.bool false) L [] .junk .junk rfl
  simp only[List.length_nil,Int.natCast_zero]at r1
  simp only[sim,af,θ,ξ,η,reduceCtorEq,ψ,ω,aa,h1,hv.len,hv.fits,hb2,jg,hb]
  exact r1
end
section
variable {h:AH}
theorem Fg (v:AV) (L:List XD) (hv:gk h v L) (hL:L.length≤100000) (g:FuncId) (a c:List AV) (p:XD→Bool)
  (hf:∀ y∈L,∀ q,ExA y q→aj Tryz.prog po g (a++[.agg q]++c) h=some (.inl (.bool (p y)),h)):∀ (l pre:List XD) (v2 v3 v6 v7:AV),L=pre++l→
  ∃ n:Int,cFR true [.v 2] h (aC (aj Tryz.prog po) 8 [.lp iB,.ss [],.blk 0,.ss [.ops [IG],.ret]] [v,.fn g a c,v2,v3,.int .i64 L.length,.int .i64 pre.length,v6,v7] [] h)=
    some (.inl (.int .i64 n),h)∧decide (0≤n)=l.any p:=by
 intro l
 induction l with
 | nil=>
   intro pre v2 v3 v6 v7 e
   have e':L=pre:=by simpa using e
   have hlt:¬ ((pre.length:Int)<(L.length:Int)):=by rw[e'];omega
   refine⟨-1,?_,rfl⟩
   rw[aG iB.eq_1]
   simp only[sim,af,θ,ξ,η,reduceCtorEq,ψ,ω,aa,hlt]
 | cons y l ih=>
   intro pre v2 v3 v6 v7 e
   have hlt:(pre.length:Int)<(L.length:Int):=by rw[e];simp;omega
   obtain⟨ad,q,i1,i2,i3⟩:=hv.ix pre.length y (by rw[e];simp)
   have i2':=i2 _ (ab.refl h)
   have cy:=hf y (by rw[e];simp) q i3
   simp only[List.append_assoc,List.cons_append,List.nil_append]at cy
   have hw:=w64 (n:=(pre.length:Int)+1) (by rw[e]at hL;simp at hL;omega) (by rw[e]at hL;simp at hL;omega)
   cases hb:p y
   ·obtain⟨n,r1,r2⟩:=ih (pre++[y]) v2 (.int .i64 pre.length) (.bool true) (.bool false) (by simp[e])
    have e2:((pre++[y]).length:Int)=(pre.length:Int)+1:=by simp
    rw[e2]at r1
    refine⟨n,?_,by rw[r2];simp[hb]⟩
    rw[hb]at cy
    rw[aG iB.eq_1]
    simp only[sim,af,θ,ξ,η,reduceCtorEq,ψ,ω,aa,au,List.append_assoc,hlt,i1,i2',cy,hw]
    exact r1
   ·refine⟨pre.length,?_,?_⟩
    ·rw[hb]at cy
     rw[aG iB.eq_1]
     simp only[sim,af,θ,ξ,η,reduceCtorEq,ψ,ω,aa,au,List.append_assoc,hlt,i1,i2',cy]
    ·simp[hb]
theorem zu (v:AV) (L:List XD) (hv:gk h v L) (hL:L.length≤100000) (g:FuncId) (a c:List AV) (p:XD→Bool)
  (hf:∀ y∈L,∀ q,ExA y q→aj Tryz.prog po g (a++[.agg q]++c) h=some (.inl (.bool (p y)),h)):
  aj Tryz.prog po 121 [v,.fn g a c] h=some (.inl (.bool (L.any p)),h):=by
 obtain⟨n,r1,r2⟩:=Fg v L hv hL g a c p hf L [] (.int .i64 0) .junk .junk .junk rfl
 simp only[List.length_nil,Int.natCast_zero]at r1
 have r0:aj Tryz.prog po 141 [v,.fn g a c] h=some (.inl (.int .i64 n),h):=by
  refine ag MQ rfl ?_;unfold Al
  simp only[sim,af,θ,ξ,η,reduceCtorEq,ψ,ω,aa,hv.len,hv.fits]
  exact r1
 refine ag Df rfl ?_;unfold si
 simp only[sim,af,θ,ξ,η,reduceCtorEq,ψ,ω,aa,r0,r2]
theorem L5:∀ (N:Nat) (x:XD),SizeOf.sizeOf x≤N→x.size≤100000→∀ (r:List AV) (h:AH) (left:Int),ExA x r→ -1≤left→left≤100000→
  aj Tryz.prog po 104 [.agg r,.int .i64 left] h=some (.inl (.bool (decide ((x.depth:Int)≤left))),h):=by
 intro N
 induction N with
 | zero=>intro x hx;have:=x.so_pos;omega
 | succ N ih=>
   intro x hx hsz r h left he h0 hm
   obtain⟨v,es,e,hv,hl⟩:=he.row
   have mv:∀ h',gk h' v x.l:=fun h'=>gk.of hv hl
   have hv1:=(mv h).one
   subst e
   refine ag NK rfl ?_;unfold Eo
   by_cases hp:0≤left
   ·have hlen:=x.len_size
    have ck:=zu (h:=(h.push [[.int .i64 x.op,.int .i64 x.k,.int .i64 x.n,v]]).push [[.int .i64 left]]) v x.l (mv _) (by omega) 122 [] [.ptr (h.n+1) 0 0] (fun y=> !decide ((y.depth:Int)≤left - 1)) (fun y hy q hq=>by
     have hw:=w64 (n:=left - 1) (by omega) (by omega)
     have dy:=ih y (by have:=XD.lt_mem hy;omega) (by have:=XD.size_mem hy;omega) q (((h.push [[.int .i64 x.op,.int .i64 x.k,.int .i64 x.n,v]]).push [[.int .i64 left]]).push [q]) (left - 1) hq (by omega) (by omega)
     obtain⟨q1,q2⟩:=hq.one
     refine ag Ly rfl ?_;unfold Bc
     simp only[sim,af,θ,ξ,η,reduceCtorEq,ψ,ω,aa,q1,q2,hw,dy,aI (ab.push _ _) (rfl:wkA (.bool (!decide ((y.depth:Int)≤left - 1)))=_)])
    simp only[sim,af,θ,ξ,η,reduceCtorEq,ψ,ω,aa,hv1,hp,ck,PG x hp,aI ((ab.push h _).trans (ab.push _ _)) (rfl:wkA (.bool (decide ((x.depth:Int)≤left)))=_)]
   ·have hd:decide ((x.depth:Int)≤left)=false:=by rw[decide_eq_false_iff_not];omega
    rw[hd]
    simp only[sim,af,θ,ξ,η,reduceCtorEq,ψ,ω,aa,hv1,hp,aI ((ab.push h _).trans (ab.push _ _)) (rfl:wkA (.bool false)=_)]
end
section
variable {h:AH}
end
section
variable {h:AH}
theorem Ce (L:List XD) (v:AV) (m:∀ h,gk h v L) (hL:L.length≤100000) (op k n:Int)
  (hf:∀ y∈L,∀ q h',ExA y q→∃ q',aj Tryz.prog po 111 [.agg q] h'=some (.inl (.agg q'),h')∧ExA y q') (v0:AV) (K:List RK):∀ (l pre:List XD) (h':AH) (acc:AV) (rows:List (List AV)) (v5:AV),L=pre++l→
  ab h h'→h.n+1+1<h'.n→h'.cell h.n=some [[.int .i64 op,.int .i64 k,.int .i64 n,v]]→h'.cell (h.n+1)=some [[.int .i64 0,.int .i64 0,.int .i64 0,.nils]]→h'.cell (h.n+1+1)=some [[.int .i64 op,.int .i64 k,.int .i64 n,acc]]→Acc h h' tE acc rows→ExL pre rows→
  ∃ h'' acc' rows' w4 w5,aC (aj Tryz.prog po) 6 (.lp jx:: .ss []:: .blk 0::K) [v0,.ptr h.n 0 0,.ptr (h.n+1) 0 0,.ptr (h.n+1+1) 0 0,.int .i64 pre.length,v5] [] h'=aC (aj Tryz.prog po) 6 K [v0,.ptr h.n 0 0,.ptr (h.n+1) 0 0,.ptr (h.n+1+1) 0 0,w4,w5] [] h''∧
    ab h h''∧h''.cell (h.n+1)=some [[.int .i64 0,.int .i64 0,.int .i64 0,.nils]]∧h''.cell (h.n+1+1)=some [[.int .i64 op,.int .i64 k,.int .i64 n,acc']]∧Acc h h'' tE acc' rows'∧ExL L rows':=by
 intro l
 induction l with
 | nil=>
   intro pre h' acc rows v5 e g hn c1 c2 c3 ha hr
   have e':L=pre:=by simpa using e
   have hlt:¬ ((pre.length:Int)<(L.length:Int)):=by rw[e'];omega
   refine⟨h',acc,rows,.int .i64 pre.length,.bool false,?_,g,c2,c3,ha,by rw[e'];exact hr⟩
   rw[aG jx.eq_1]
   simp only[sim,af,θ,ξ,η,reduceCtorEq,ψ,ω,aa,c1,(m h).len,(m h).fits,hlt]
 | cons y l ih=>
   intro pre h' acc rows v5 e g hn c1 c2 c3 ha hr
   have hlt:(pre.length:Int)<(L.length:Int):=by rw[e];simp;omega
   have hpl:pre.length≤100000:=by rw[e]at hL;simp at hL;omega
   obtain⟨a,q,i1,i2,i3⟩:=(m h').ix pre.length y (by rw[e];simp)
   have i2':=i2 _ (ab.refl h')
   obtain⟨q',cy,hq'⟩:=hf y (by rw[e];simp) q h' i3
   obtain⟨o1,o2⟩:=hq'.one
   have hw:=w64 (n:=(pre.length:Int)+1) (by omega) (by omega)
   have hrl:rows.length≤1000000:=by rw[hr.len];omega
   obtain⟨acc2,h2,e1,a1,a2,a3,a4⟩:=lw ha g (row:=q') o1 hrl
   have b1:(h2.set (h.n+1+1) (some [[.int .i64 op,.int .i64 k,.int .i64 n,acc2]])).cell h.n=some [[.int .i64 op,.int .i64 k,.int .i64 n,v]]:=by rw[bu (by omega),a3];exact c1
   have b2:(h2.set (h.n+1+1) (some [[.int .i64 op,.int .i64 k,.int .i64 n,acc2]])).cell (h.n+1)=some [[.int .i64 0,.int .i64 0,.int .i64 0,.nils]]:=by rw[bu (by omega),a3];exact c2
   obtain⟨h'',acc',rows',w4,w5,r1,r2⟩:=ih (pre++[y]) (h2.set (h.n+1+1) (some [[.int .i64 op,.int .i64 k,.int .i64 n,acc2]])) acc2 (rows++[q']) (.bool true) (by simp[e]) (a2.set (by omega)) (by show _<h2.n;rw[a4];exact hn) b1 b2 bR a1 (hr.append hq')
   have e3:((pre++[y]).length:Int)=(pre.length:Int)+1:=by simp
   rw[e3]at r1
   refine⟨h'',acc',rows',w4,w5,?_,r2⟩
   have oA:acc2.one=true:=by
    rcases a1 with⟨_,rfl⟩ | ⟨id,_,_,_,_,rfl⟩<;>rfl
   have cA:acc2.cells=[acc2]:=by
    rcases a1 with⟨_,rfl⟩ | ⟨id,_,_,_,_,rfl⟩<;>rfl
   rw[aG jx.eq_1]
   simp only[sim,af,θ,ξ,η,reduceCtorEq,ψ,ω,aa,c1,c2,c3,(m h).len,(m h).fits,hlt,i1,i2',cy,o1,o2,e1,a3,oA,cA,hw]
   exact r1
theorem DM:∀ (N:Nat) (x:XD),SizeOf.sizeOf x≤N→x.size≤100000→∀ (r:List AV) (h:AH),ExA x r→
  ∃ r',aj Tryz.prog po 111 [.agg r] h=some (.inl (.agg r'),h)∧ExA x r':=by
 intro N
 induction N with
 | zero=>intro x hx;have:=x.so_pos;omega
 | succ N ih=>
   intro x hx hsz r h he
   obtain⟨v,es,e,hv,hl⟩:=he.row
   have m:∀ h,gk h v x.l:=fun h=>gk.of hv hl
   have o1:=(m h).one
   have l1:=(m h).len
   have f1:=(m h).fits
   have hlen:=x.len_size
   subst e
   obtain⟨h'',acc',rows',w4,w5,r1,g,c2,c3,ha,hr⟩:=Ce (h:=h) x.l v m (by omega) x.op x.k x.n (fun y hy q h' hq=>ih y (by have:=XD.lt_mem hy;omega) (by have:=XD.size_mem hy;omega) q h' hq) (.agg [.int .i64 x.op,.int .i64 x.k,.int .i64 x.n,v]) [.ss [.ops [(.i .l (.load true 4 (.v 3))),(.i .n (.store 4 (.v 2) (.l 0)))],.ret]] x.l []
    (((h.push [[.int .i64 x.op,.int .i64 x.k,.int .i64 x.n,v]]).push [[.int .i64 0,.int .i64 0,.int .i64 0,.nils]]).push [[.int .i64 x.op,.int .i64 x.k,.int .i64 x.n,.nils]]) .nils [] .junk rfl
    (((ab.push h _).trans (ab.push _ _)).trans (ab.push _ _)) (by simp only[bd];omega) gA iE aw (iI _ _ _) rfl
   simp only[List.length_nil,Int.natCast_zero]at r1
   have hx':ExA x [.int .i64 x.op,.int .i64 x.k,.int .i64 x.n,acc']:=by
    rw[x.eta]
    simp only[ExA]
    refine⟨acc',rows',rfl,?_,hr⟩
    rcases ha with⟨q1,q2⟩ | ⟨id,_,_,_,_,q2⟩
    ·exact .inl ⟨q1,q2⟩
    ·exact .inr ⟨_,q2⟩
   obtain⟨r',hw,hr'⟩:=WC hx'
   have oA:=hx'.one.1
   simp only[List.all_cons,List.all_nil,Bool.and_true]at oA
   have oA':acc'.one=true:=oA
   have hwA:wkA (.agg [.int .i64 x.op,.int .i64 x.k,.int .i64 x.n,acc'])=some (.agg r'):=by simp only[wkA,hw,Option.map_some]
   refine⟨r',?_,hr'⟩
   refine ag HV rfl ?_;unfold yC
   simp only[sim,af,θ,ξ,η,reduceCtorEq,ψ,ω,aa,o1,l1,f1,r1,c2,c3,oA',aI (g.set (show h.n≤h.n+1 by omega)) hwA]
theorem za (L:List XD) (v:AV) (m:∀ h,gk h v L) (hL:L.length≤100000)
  (hf:∀ y∈L,∀ q h',ExA y q→∃ q',aj Tryz.prog po 111 [.agg q] h'=some (.inl (.agg q'),h')∧ExA y q') (v0:AV) (K:List RK):∀ (l pre:List XD) (h':AH) (acc:AV) (rows:List (List AV)) (v5:AV),L=pre++l→
  ab h h'→h.n+1+1<h'.n→h'.cell h.n=some [[v]]→h'.cell (h.n+1)=some [[.nils]]→h'.cell (h.n+1+1)=some [[acc]]→Acc h h' tE acc rows→ExL pre rows→
  ∃ h'' acc' rows' w4 w5,aC (aj Tryz.prog po) 6 (.lp gU:: .ss []:: .blk 0::K) [v0,.ptr h.n 0 0,.ptr (h.n+1) 0 0,.ptr (h.n+1+1) 0 0,.int .i64 pre.length,v5] [] h'=aC (aj Tryz.prog po) 6 K [v0,.ptr h.n 0 0,.ptr (h.n+1) 0 0,.ptr (h.n+1+1) 0 0,w4,w5] [] h''∧
    ab h h''∧h''.cell (h.n+1)=some [[.nils]]∧h''.cell (h.n+1+1)=some [[acc']]∧Acc h h'' tE acc' rows'∧ExL L rows':=by
 intro l
 induction l with
 | nil=>
   intro pre h' acc rows v5 e g hn c1 c2 c3 ha hr
   have e':L=pre:=by simpa using e
   have hlt:¬ ((pre.length:Int)<(L.length:Int)):=by rw[e'];omega
   refine⟨h',acc,rows,.int .i64 pre.length,.bool false,?_,g,c2,c3,ha,by rw[e'];exact hr⟩
   rw[aG gU.eq_1]
   simp only[sim,af,θ,ξ,η,reduceCtorEq,ψ,ω,aa,c1,(m h).len,(m h).fits,hlt]
 | cons y l ih=>
   intro pre h' acc rows v5 e g hn c1 c2 c3 ha hr
   have hlt:(pre.length:Int)<(L.length:Int):=by rw[e];simp;omega
   have hpl:pre.length≤100000:=by rw[e]at hL;simp at hL;omega
   obtain⟨a,q,i1,i2,i3⟩:=(m h').ix pre.length y (by rw[e];simp)
   have i2':=i2 _ (ab.refl h')
   obtain⟨q',cy,hq'⟩:=hf y (by rw[e];simp) q h' i3
   obtain⟨o1,o2⟩:=hq'.one
   have hw:=w64 (n:=(pre.length:Int)+1) (by omega) (by omega)
   have hrl:rows.length≤1000000:=by rw[hr.len];omega
   obtain⟨acc2,h2,e1,a1,a2,a3,a4⟩:=lw ha g (row:=q') o1 hrl
   have b1:(h2.set (h.n+1+1) (some [[acc2]])).cell h.n=some [[v]]:=by rw[bu (by omega),a3];exact c1
   have b2:(h2.set (h.n+1+1) (some [[acc2]])).cell (h.n+1)=some [[.nils]]:=by rw[bu (by omega),a3];exact c2
   obtain⟨h'',acc',rows',w4,w5,r1,r2⟩:=ih (pre++[y]) (h2.set (h.n+1+1) (some [[acc2]])) acc2 (rows++[q']) (.bool true) (by simp[e]) (a2.set (by omega)) (by show _<h2.n;rw[a4];exact hn) b1 b2 bR a1 (hr.append hq')
   have e3:((pre++[y]).length:Int)=(pre.length:Int)+1:=by simp
   rw[e3]at r1
   refine⟨h'',acc',rows',w4,w5,?_,r2⟩
   have oA:acc2.one=true:=by
    rcases a1 with⟨_,rfl⟩ | ⟨id,_,_,_,_,rfl⟩<;>rfl
   have cA:acc2.cells=[acc2]:=by
    rcases a1 with⟨_,rfl⟩ | ⟨id,_,_,_,_,rfl⟩<;>rfl
   rw[aG gU.eq_1]
   simp only[sim,af,θ,ξ,η,reduceCtorEq,ψ,ω,aa,c1,c2,c3,(m h).len,(m h).fits,hlt,i1,i2',cy,o1,o2,e1,a3,oA,cA,hw]
   exact r1
theorem zo (v:AV) (L:List XD) (m:∀ h,gk h v L) (hL:L.length≤100000) (hs:∀ x∈L,x.size≤100000):
  ∃ r',aj Tryz.prog po 83 [.agg [v]] h=some (.inl (.agg r'),h)∧NV L r':=by
 have o1:=(m h).one
 have l1:=(m h).len
 have f1:=(m h).fits
 obtain⟨h'',acc',rows',w4,w5,r1,g,c2,c3,ha,hr⟩:=za (h:=h) L v m hL (fun y hy q h' hq=>DM _ y (Nat.le_refl _) (hs y hy) q h' hq) (.agg [v]) [.ss [.ops [wU,(.i .n (.store 1 (.v 2) (.l 0)))],.ret]] L []
  (((h.push [[v]]).push [[.nils]]).push [[.nils]]) .nils [] .junk rfl
  (((ab.push h _).trans (ab.push _ _)).trans (ab.push _ _)) (by simp only[bd];omega) gA iE aw (iI _ _ _) rfl
 simp only[List.length_nil,Int.natCast_zero]at r1
 have hsl:SlA tE acc' rows':=by
  rcases ha with⟨q1,q2⟩ | ⟨id,_,_,_,_,q2⟩
  ·exact .inl ⟨q1,q2⟩
  ·exact .inr ⟨_,q2⟩
 obtain⟨rows2,hw,hr'⟩:=Ji hr
 have oA':acc'.one=true:=(gk.of (h:=h) hsl hr).one
 have hwA:∃ a2,wkA (.agg [acc'])=some (.agg [a2])∧SlA tE a2 rows2:=by
  rcases hsl with⟨q1,rfl⟩ | ⟨id,rfl⟩
  ·subst q1
   cases hw
   exact⟨.nils,rfl,.inl ⟨rfl,rfl⟩⟩
  ·exact⟨.isl none tE rows2,by simp only[wkA,wkL,hw,Option.map_some],.inr ⟨_,rfl⟩⟩
 obtain⟨a2,hwA,hs2⟩:=hwA
 refine⟨[a2],?_,a2,rows2,rfl,hs2,hr'⟩
 refine ag Cx rfl ?_;unfold rL
 simp only[sim,af,θ,ξ,η,reduceCtorEq,ψ,ω,aa,o1,l1,f1,r1,c2,c3,oA',aI (g.set (show h.n≤h.n+1 by omega)) hwA]
end
def orF (c d:Int):Int:=if c=0 then d else c
theorem uE (d:Int):orF 0 d=d:=rfl
theorem P3 (c:Int):orF c 0=c:=by unfold orF;split<;>simp_all
theorem nt {c:Int} (h:c≠0) (d:Int):orF c d=c:=if_neg h
theorem Mk (a b c:Int):orF (orF a b) c=orF a (orF b c):=by
 unfold orF
 by_cases h:a=0<;>simp[h]
structure JH (b:Nat) (mv:AV) (c:Int) (h h':AH):Prop where
 n:h.n≤h'.n
 ids:h.ids≤h'.ids
 old:∀ k,k<h.n→k≠b→h'.cell k=h.cell k
 hw:∀ k,k<h.ids→h'.hw k=h.hw k
 j:h'.cell b=some [[mv,.int .i64 c]]
theorem JH.refl {b:Nat} {mv:AV} {c:Int} {h:AH} (hb:h.cell b=some [[mv,.int .i64 c]]):JH b mv c h h:=⟨Nat.le_refl _,Nat.le_refl _,fun _ _ _=>rfl,fun _ _=>rfl,hb⟩
theorem JH.trans {b:Nat} {mv:AV} {c c':Int} {h h' h'':AH} (x:JH b mv c h h') (y:JH b mv c' h' h''):JH b mv c' h h'':=
 ⟨Nat.le_trans x.n y.n,Nat.le_trans x.ids y.ids,fun k hk hn=>(y.old k (Nat.lt_of_lt_of_le hk x.n) hn).trans (x.old k hk hn),fun k hk=>(y.hw k (Nat.lt_of_lt_of_le hk x.ids)).trans (x.hw k hk),y.j⟩
theorem JH.push {b:Nat} {mv:AV} {c:Int} {h:AH} (hb:h.cell b=some [[mv,.int .i64 c]]) (hlt:b<h.n) (es:List (List AV)):JH b mv c h (h.push es):=
 ⟨by simp[AH.push],by simp[AH.push],fun k hk _=>bv hk,fun _ _=>rfl,(bv hlt).trans hb⟩
theorem JH.grew {b:Nat} {mv:AV} {c:Int} {h0 h h':AH} (g:ab h0 h) (hb:h0.n≤b) (x:JH b mv c h h'):ab h0 h':=
 ⟨Nat.le_trans g.n x.n,Nat.le_trans g.ids x.ids,fun k hk=>(x.old k (Nat.lt_of_lt_of_le hk g.n) (by omega)).trans (g.cell k hk),fun k hk=>(x.hw k (Nat.lt_of_lt_of_le hk g.ids)).trans (g.hw k hk)⟩
section
variable {h:AH} {b:Nat} {mv:AV} {c:Int}
theorem ed (hb:h.cell b=some [[mv,.int .i64 c]]) (is:Bool) (d:Int):
  ∃ h',aj Tryz.prog po 103 [.ptr b 0 0,.bool is,.int .i64 d] h=some (.inl (.tup []),h')∧JH b mv (orF c (if is then d else 0)) h h':=by
 cases is
 ·refine⟨h,?_,by rw[if_neg (by simp),P3];exact JH.refl hb⟩
  refine ag ze rfl ?_;unfold sJ
  simp only[sim,af,θ,ξ,η,reduceCtorEq,ψ,ω,aa]
 ·by_cases hc:c=0
  ·subst hc
   refine⟨h.set b (some [[mv,.int .i64 d]]),?_,⟨Nat.le_refl _,Nat.le_refl _,fun k _ hn=>bu hn,fun _ _=>rfl,by rw[bR];rfl⟩⟩
   refine ag ze rfl ?_;unfold sJ
   simp only[sim,af,θ,ξ,η,reduceCtorEq,ψ,ω,aa,hb,eq_self]
  ·refine⟨h,?_,by rw[nt hc];exact JH.refl hb⟩
   refine ag ze rfl ?_;unfold sJ
   simp only[sim,af,θ,ξ,η,reduceCtorEq,ψ,ω,aa,hb,hc]
def bU (nf op k o:Int):Int:=
 if op=4 then(if k<0∨o≤k then 1 else 0)
 else if op=6 then(if k<1∨5<k then 1 else 0)
 else if op=15 then(if k<0∨15<k then 1 else 0)
 else if op=18 then(if k<0∨nf≤k then 1 else 0)
 else if k≠0 then 5 else 0
theorem Kg (nf op k n o:Int):lH nf op k n o=orF (if n≠0∧op≠2 then 5 else 0) (bU nf op k o):=by
 unfold lH
 by_cases h1:n≠0∧op≠2
 ·rw[if_pos h1,if_pos h1];rfl
 ·rw[if_neg h1,if_neg h1];rfl
theorem PH (k:Int):aj Tryz.prog po 120 [.int .i64 k] h=some (.inl (.bool (!decide (k<0∨15<k))),h):=by
 refine ag z8 rfl ?_;unfold sN
 by_cases h0:0≤k
 ·by_cases h1:k≤15
  ·have e:decide (k<0∨15<k)=false:=by rw[decide_eq_false_iff_not];omega
   simp only[sim,af,θ,ξ,η,reduceCtorEq,ψ,ω,aa,h0,h1,e]
  ·have e:decide (k<0∨15<k)=true:=by rw[decide_eq_true_eq];omega
   simp only[sim,af,θ,ξ,η,reduceCtorEq,ψ,ω,aa,h0,h1,e]
 ·have e:decide (k<0∨15<k)=true:=by rw[decide_eq_true_eq];omega
  simp only[sim,af,θ,ξ,η,reduceCtorEq,ψ,ω,aa,h0,e]
end
section
variable {h:AH} {b:Nat} {mv:AV} {c:Int}
theorem Ti (hb:h.cell b=some [[mv,.int .i64 c]]) (op k n:Int) (v:AV) (q:Nat) (hq:h.cell q=some [[.int .i64 op,.int .i64 k,.int .i64 n,v]]) (v1 v2 v4 v5 v6 v7 v8:AV) (rest:List RS) (K:List RK):
  ∃ h1,aC (aj Tryz.prog po) 9 (.ss ((.ops [ay,jQ,ai,oU,aV,(.g (.l 0) true .l (.fad 0 (.v 3))),lE,C0,yH,(.i .l (.call (.c (.fn 103 [] [])) [(.l 8),(.l 0),(.c (.int .i64 5))]))])::rest)::K) [.ptr b 0 0,v1,v2,.ptr q 0 0,v4,v5,v6,v7,v8] [] h=aC (aj Tryz.prog po) 9 (.ss rest::K) [.ptr b 0 0,v1,v2,.ptr q 0 0,v4,v5,v6,v7,v8] [] h1∧
    JH b mv (orF c (if n≠0∧op≠2 then 5 else 0)) h h1:=by
 obtain⟨h1,r1,j1⟩:=ed hb (!decide (n=0) && !decide (op=2)) 5
 refine⟨h1,?_,?_⟩
 ·cases e1:decide (n=0)<;>cases e2:decide (op=2)<;>simp only[e1,e2,Bool.not_true,Bool.not_false,Bool.and_true,Bool.and_false]at r1<;>simp only[sim,af,θ,ξ,η,reduceCtorEq,ψ,ω,aa,hq,e1,e2,r1]
 ·have e:(if(!decide (n=0) && !decide (op=2))=true then(5:Int)else 0)=if n≠0∧op≠2 then 5 else 0:=by simp
  rw[e]at j1
  exact j1
theorem Lt (hb:h.cell b=some [[mv,.int .i64 c]]) {nf:Nat} (hm:eW mv=some nf) (hft:∀ s,ew s (some tE) mv=true) (op k n o:Int) (v:AV) (q:Nat) (hx:h.cell q=some [[.int .i64 op,.int .i64 k,.int .i64 n,v]]) (H:AH) (v1 v4 v5 v6 v7 v8:AV):
  ∃ h1,cFR false [] H (aC (aj Tryz.prog po) 9 [.ss [(.ops [g9,(.i (.v 4) f9)]),(.block 0 [(.ops [Dj,dw]),(.cond (.v 5) [(.ops [ay,eu,ai,jJ,aV,mS,fG,(.g (.l 2) false .l (.mv (.v 2))),(.g (.l 3) false .l (.bin (.int .i64) .geq (.l 1) (.l 0))),(.i .l qB),(.i .l (.call (.c (.fn 103 [] [])) [(.l 9),(.l 0),(.c (.int .i64 1))]))])] [(.ops [(.i .l (.bin (.int .i64) .eql (.v 4) (.c (.int .i64 6)))),dM]),(.cond (.v 6) [(.ops [ay,eu,ai,yR,aV,mS,fG,Do,pV,(.i .l (.call (.c (.fn 103 [] [])) [(.l 8),(.l 0),(.c (.int .i64 1))]))])] [(.ops [(.i .l (.bin (.int .i64) .eql (.v 4) (.c (.int .i64 15)))),fV]),(.cond (.v 7) [(.ops [ay,eu,ai,CU,lW,(.i .l (.call (.c (.fn 103 [] [])) [(.l 4),(.l 0),(.c (.int .i64 1))]))])] [(.ops [(.i .l (.bin (.int .i64) .eql (.v 4) (.c (.int .i64 18)))),dE]),(.cond (.v 8) [(.ops [ay,eu,ai,jJ,aV,mS,fG,BE,B8,BU,(.g (.l 5) false .l nV),Cz,(.g (.l 7) false .l tS),(.g (.l 8) false .l (.bin (.int .i64) .geq (.l 6) (.l 0))),(.i .l (.pick (.l 9) (.c (.bool true)) (.l 0))),(.i .l (.call (.c (.fn 103 [] [])) [(.l 14),(.l 0),(.c (.int .i64 1))]))])] [(.ops [ay,eu,ai,oU,(.i .l (.call (.c (.fn 103 [] [])) [(.l 3),(.l 0),(.c (.int .i64 5))]))])])])])])])]] [.ptr b 0 0,v1,.int .i64 o,.ptr q 0 0,v4,v5,v6,v7,v8] [] h)=some (.inl (.tup []),h1)∧
    JH b mv (orF c (bU nf op k o)) h h1:=by
 have hj:=hb
 have j1:=JH.refl hb
 by_cases h4:op=4
 ·subst h4
  obtain⟨h2,r2,j2⟩:=ed j1.j (decide (k<0∨o≤k)) 1
  refine⟨h2,?_,?_⟩
  ·by_cases hk:k<0
   ·have e:decide (k<0∨o≤k)=true:=by rw[decide_eq_true_eq];omega
    rw[e]at r2
    simp only[sim,af,θ,ξ,η,reduceCtorEq,ψ,ω,aa,Int.reduceEq,hx,hk,r2]
   ·by_cases hu:o≤k
    ·have e:decide (k<0∨o≤k)=true:=by rw[decide_eq_true_eq];omega
     rw[e]at r2
     simp only[sim,af,θ,ξ,η,reduceCtorEq,ψ,ω,aa,Int.reduceEq,hx,hj,hm,hft,hk,hu,r2]
    ·have e:decide (k<0∨o≤k)=false:=by rw[decide_eq_false_iff_not];omega
     rw[e]at r2
     simp only[sim,af,θ,ξ,η,reduceCtorEq,ψ,ω,aa,Int.reduceEq,hx,hj,hm,hft,hk,hu,r2]
  ·have e2:bU nf 4 k o=if decide (k<0∨o≤k)=true then 1 else 0:=by simp[bU]
   rw[e2]
   exact j1.trans j2
 by_cases h6:op=6
 ·subst h6
  obtain⟨h2,r2,j2⟩:=ed j1.j (decide (k<1∨5<k)) 1
  refine⟨h2,?_,?_⟩
  ·by_cases hk:k<1
   ·have e:decide (k<1∨5<k)=true:=by rw[decide_eq_true_eq];omega
    rw[e]at r2
    simp only[sim,af,θ,ξ,η,reduceCtorEq,ψ,ω,aa,Int.reduceEq,hx,hk,r2]
   ·by_cases hu:5<k
    ·have e:decide (k<1∨5<k)=true:=by rw[decide_eq_true_eq];omega
     rw[e]at r2
     simp only[sim,af,θ,ξ,η,reduceCtorEq,ψ,ω,aa,Int.reduceEq,hx,hj,hm,hft,hk,hu,r2]
    ·have e:decide (k<1∨5<k)=false:=by rw[decide_eq_false_iff_not];omega
     rw[e]at r2
     simp only[sim,af,θ,ξ,η,reduceCtorEq,ψ,ω,aa,Int.reduceEq,hx,hj,hm,hft,hk,hu,r2]
  ·have e2:bU nf 6 k o=if decide (k<1∨5<k)=true then 1 else 0:=by simp[bU]
   rw[e2]
   exact j1.trans j2
 by_cases h15:op=15
 ·subst h15
  obtain⟨h2,r2,j2⟩:=ed j1.j (decide (k<0∨15<k)) 1
  refine⟨h2,?_,?_⟩
  ·have w:=PH (h:=h) k
   simp only[sim,af,θ,ξ,η,reduceCtorEq,ψ,ω,aa,Int.reduceEq,hx,w,Bool.not_not,r2]
  ·have e2:bU nf 15 k o=if decide (k<0∨15<k)=true then 1 else 0:=by simp[bU]
   rw[e2]
   exact j1.trans j2
 by_cases h18:op=18
 ·subst h18
  obtain⟨h2,r2,j2⟩:=ed j1.j (decide (k<0∨(nf:Int)≤k)) 1
  refine⟨h2,?_,?_⟩
  ·by_cases hk:k<0
   ·have e:decide (k<0∨(nf:Int)≤k)=true:=by rw[decide_eq_true_eq];omega
    rw[e]at r2
    simp only[sim,af,θ,ξ,η,reduceCtorEq,ψ,ω,aa,Int.reduceEq,hx,hk,r2]
   ·by_cases hu:(nf:Int)≤k
    ·have e:decide (k<0∨(nf:Int)≤k)=true:=by rw[decide_eq_true_eq];omega
     rw[e]at r2
     simp only[sim,af,θ,ξ,η,reduceCtorEq,ψ,ω,aa,Int.reduceEq,hx,hj,hm,hft,hk,hu,r2]
    ·have e:decide (k<0∨(nf:Int)≤k)=false:=by rw[decide_eq_false_iff_not];omega
     rw[e]at r2
     simp only[sim,af,θ,ξ,η,reduceCtorEq,ψ,ω,aa,Int.reduceEq,hx,hj,hm,hft,hk,hu,r2]
  ·have e2:bU nf 18 k o=if decide (k<0∨(nf:Int)≤k)=true then 1 else 0:=by simp[bU]
   rw[e2]
   exact j1.trans j2
 obtain⟨h2,r2,j2⟩:=ed j1.j (!decide (k=0)) 5
 refine⟨h2,?_,?_⟩
 ·simp only[sim,af,θ,ξ,η,reduceCtorEq,ψ,ω,aa,hx,h4,h6,h15,h18,r2]
 ·have e2:bU nf op k o=if(!decide (k=0))=true then 5 else 0:=by simp[bU,h4,h6,h15,h18]
  rw[e2]
  exact j1.trans j2
theorem Di (hb:h.cell b=some [[mv,.int .i64 c]]) (hlt:b<h.n) {nf:Nat} (hm:eW mv=some nf) (hft:∀ s,ew s (some tE) mv=true) (op k n o:Int) (v:AV) (hv:v.one=true):
  ∃ h',aj Tryz.prog po 124 [.ptr b 0 0,.agg [.int .i64 op,.int .i64 k,.int .i64 n,v],.int .i64 o] h=some (.inl (.tup []),h')∧JH b mv (orF c (lH nf op k n o)) h h':=by
 have p:=JH.push (c:=c) hb hlt [[.int .i64 op,.int .i64 k,.int .i64 n,v]]
 obtain⟨h1,r1,j1⟩:=Ti p.j op k n v h.n ap (.agg [.int .i64 op,.int .i64 k,.int .i64 n,v]) (.int .i64 o) .junk .junk .junk .junk .junk [(.ops [g9,(.i (.v 4) f9)]),(.block 0 [(.ops [Dj,dw]),(.cond (.v 5) [(.ops [ay,eu,ai,jJ,aV,mS,fG,(.g (.l 2) false .l (.mv (.v 2))),(.g (.l 3) false .l (.bin (.int .i64) .geq (.l 1) (.l 0))),(.i .l qB),(.i .l (.call (.c (.fn 103 [] [])) [(.l 9),(.l 0),(.c (.int .i64 1))]))])] [(.ops [(.i .l (.bin (.int .i64) .eql (.v 4) (.c (.int .i64 6)))),dM]),(.cond (.v 6) [(.ops [ay,eu,ai,yR,aV,mS,fG,Do,pV,(.i .l (.call (.c (.fn 103 [] [])) [(.l 8),(.l 0),(.c (.int .i64 1))]))])] [(.ops [(.i .l (.bin (.int .i64) .eql (.v 4) (.c (.int .i64 15)))),fV]),(.cond (.v 7) [(.ops [ay,eu,ai,CU,lW,(.i .l (.call (.c (.fn 103 [] [])) [(.l 4),(.l 0),(.c (.int .i64 1))]))])] [(.ops [(.i .l (.bin (.int .i64) .eql (.v 4) (.c (.int .i64 18)))),dE]),(.cond (.v 8) [(.ops [ay,eu,ai,jJ,aV,mS,fG,BE,B8,BU,(.g (.l 5) false .l nV),Cz,(.g (.l 7) false .l tS),(.g (.l 8) false .l (.bin (.int .i64) .geq (.l 6) (.l 0))),(.i .l (.pick (.l 9) (.c (.bool true)) (.l 0))),(.i .l (.call (.c (.fn 103 [] [])) [(.l 14),(.l 0),(.c (.int .i64 1))]))])] [(.ops [ay,eu,ai,oU,(.i .l (.call (.c (.fn 103 [] [])) [(.l 3),(.l 0),(.c (.int .i64 5))]))])])])])])])] []
 obtain⟨h2,r2,j2⟩:=Lt j1.j hm hft op k n o v h.n (by rw[j1.old h.n (by simp[AH.push]) (by omega)];exact ap) h (.agg [.int .i64 op,.int .i64 k,.int .i64 n,v]) .junk .junk .junk .junk .junk
 refine⟨h2,?_,?_⟩
 ·refine ag Ec rfl ?_;unfold uC
  rw[Q1,Km (by simp only[sim,af,θ,ξ,η,reduceCtorEq,ψ,ω,aa,hv]) (by simp only[sim,af,θ,ξ,η,reduceCtorEq,ψ,ω,aa]),sR]
  exact(congrArg (cFR false [] h) r1).trans r2
 ·rw[Kg,←Mk]
  exact(p.trans j1).trans j2
end
theorem XD.fault_eq (nf:Int) (x:XD) (o:Int):x.fault nf o=orF (gD nf x.op x.k x.n x.l.length o) (fq nf x.op 0 x.l o):=by
 cases x with
 | mk op k n l=>
   simp only[XD.fault,XD.op,XD.k,XD.n,XD.l,orF]
   by_cases hh:gD nf op k n l.length o=0<;>simp[hh]
theorem Um (nf k n:Int) (len:Nat):gD nf 5 k n len 12≠0:=by
 unfold gD
 split
 ·decide
 ·split
  ·decide
  ·split
   ·assumption
   ·simp
theorem km (nf op:Int) (i:Nat) (x:XD) (l:List XD) (o:Int):fq nf op i (x::l) o=orF (x.fault nf (if op=5∧i=1 then o+1 else o)) (fq nf op (i+1) l o):=by
 simp only[fq,orF]
 by_cases hh:x.fault nf (if op=5∧i=1 then o+1 else o)=0<;>simp[hh]
theorem Vj (nf op k n:Int) (len:Nat) (o:Int):gD nf op k n len o=
  orF (orF (orF (if decide (bh op<0)=true then 2 else 0) (if(!decide ((len:Int)=bh op))=true then 5 else 0)) (lH nf op k n o)) (if(decide (op=5) && decide (o=12))=true then 3 else 0):=by
 unfold gD orF
 by_cases h1:bh op<0
 ·simp[h1]
 ·by_cases h2:(len:Int)=bh op
  ·by_cases h3:lH nf op k n o=0<;>simp[h1,h2,h3]
  ·simp[h1,h2]
section
variable {h:AH} {b:Nat} {mv:AV}
theorem HL (hbn:b<h.n) (nf:Int) (x:XD) (v:AV) (m:∀ h,gk h v x.l) (hL:x.l.length≤100000) (o:Int) (ho:0≤o) (ho2:o≤12) (H:AH)
  (hf:∀ y∈x.l,∀ (q:List AV) (h:AH) (o:Int),ExA y q→0≤o→o≤12→h.cell b=some [[mv,.int .i64 0]]→b<h.n→∃ h',aj Tryz.prog po 106 [.ptr b 0 0,.agg q,.int .i64 o] h=some (.inl (.tup []),h')∧JH b mv (y.fault nf o) h h')
  (v1 v4:AV):∀ (l pre:List XD) (h':AH) (c:Int) (v5 v6 v10 v11 v12:AV),x.l=pre++l→JH b mv c h h'→h.n<h'.n→h'.cell h.n=some [[.int .i64 x.op,.int .i64 x.k,.int .i64 x.n,v]]→(x.op=5→o=12→c≠0)→
  ∃ h'',cFR false [] H (aC (aj Tryz.prog po) 13 [.lp ie,.ss [],.blk 0,.ss []] [.ptr b 0 0,v1,.int .i64 o,.ptr h.n 0 0,v4,v5,v6,v,.int .i64 x.l.length,.int .i64 pre.length,v10,v11,v12] [] h')=some (.inl (.tup []),h'')∧
    JH b mv (orF c (fq nf x.op pre.length l o)) h h'':=by
 intro l
 induction l with
 | nil=>
   intro pre h' c v5 v6 v10 v11 v12 e j hn hx ht
   have e':x.l=pre:=by simpa using e
   have hlt:¬ ((pre.length:Int)<(x.l.length:Int)):=by rw[e'];omega
   refine⟨h',?_,by simp only[fq,P3];exact j⟩
   rw[aG ie.eq_1]
   simp only[sim,af,θ,ξ,η,reduceCtorEq,ψ,ω,aa,hlt]
 | cons y l ih=>
   intro pre h' c v5 v6 v10 v11 v12 e j hn hx ht
   have hlt:(pre.length:Int)<(x.l.length:Int):=by rw[e];simp;omega
   obtain⟨a,q,i1,i2,i3⟩:=(m h').ix pre.length y (by rw[e];simp)
   have i2':=i2 _ (ab.refl h')
   obtain⟨o1,o2⟩:=i3.one
   have p:=JH.push j.j (Nat.lt_trans hbn hn) [q]
   have hj:=p.j
   have hx2:(h'.push [q]).cell h.n=some [[.int .i64 x.op,.int .i64 x.k,.int .i64 x.n,v]]:=(bv hn).trans hx
   have hw:=w64 (n:=(pre.length:Int)+1) (by rw[e]at hL;simp at hL;omega) (by rw[e]at hL;simp at hL;omega)
   by_cases hc:c=0
   ·subst hc
    have hb0:h'.n+1=(h'.push [q]).n:=rfl
    have ht2:∀ {c':Int},x.op=5→o=12→c'≠0:=fun h1 h2=>absurd rfl (ht h1 h2)
    have e3:((pre++[y]).length:Int)=(pre.length:Int)+1:=by simp
    have e4:(pre++[y]).length=pre.length+1:=by simp
    have hk:∀ (h1:AH) (c':Int),JH b mv c' (h'.push [q]) h1→h1.cell h.n=some [[.int .i64 x.op,.int .i64 x.k,.int .i64 x.n,v]]∧h.n<h1.n:=fun h1 c' j1=>
     ⟨(j1.old h.n (by simp only[bd];omega) (by omega)).trans hx2,Nat.lt_of_lt_of_le (by simp only[bd];omega) j1.n⟩
    by_cases hin:x.op=5∧pre.length=1
    ·obtain⟨hop,hp1⟩:=hin
     have ho12:o≤11:=by
      rcases Int.lt_or_eq_of_le ho2 with h1 | h1
      ·omega
      ·exact absurd rfl (ht hop h1)
     have hp1':(pre.length:Int)=1:=by omega
     have hwo:=w64 (n:=o+1) (by omega) (by omega)
     obtain⟨h1,r1,j1⟩:=hf y (by rw[e];simp) q (h'.push [q]) (o+1) i3 (by omega) (by omega) hj (by simp only[bd];omega)
     obtain⟨h2,r2,j2⟩:=ih (pre++[y]) h1 (y.fault nf (o+1)) (.int .i64 pre.length) (.ptr h'.n 0 0) (.bool true) (.bool false) (.bool true) (by simp[e]) ((j.trans p).trans j1) (hk h1 _ j1).2 (hk h1 _ j1).1 ht2
     rw[e3]at r2
     refine⟨h2,?_,?_⟩
     ·rw[hop]at hx2
      have hd5:decide ((pre.length:Int)=1)=true:=by simp[hp1']
      rw[aG ie.eq_1]
      simp only[sim,af,θ,ξ,η,reduceCtorEq,ψ,ω,aa,hlt,i1,i2',o1,o2,hj,hx2,Int.reduceEq,hd5,hwo,r1,hw]
      exact r2
     ·rw[km,if_pos ⟨hop,hp1⟩,uE]
      rw[e4]at j2
      exact j2
    ·obtain⟨h1,r1,j1⟩:=hf y (by rw[e];simp) q (h'.push [q]) o i3 (by omega) (by omega) hj (by simp only[bd];omega)
     have hd:(decide (x.op=5) && decide ((pre.length:Int)=1))=false:=by
      rw[Bool.and_eq_false_iff,decide_eq_false_iff_not,decide_eq_false_iff_not]
      by_cases h5:x.op=5
      ·exact .inr (fun hp=>hin ⟨h5,by omega⟩)
      ·exact .inl h5
     obtain⟨h2,r2,j2⟩:=ih (pre++[y]) h1 (y.fault nf o) (.int .i64 pre.length) (.ptr h'.n 0 0) (.bool true) (.bool false) (.bool false) (by simp[e]) ((j.trans p).trans j1) (hk h1 _ j1).2 (hk h1 _ j1).1 ht2
     rw[e3]at r2
     refine⟨h2,?_,?_⟩
     ·rw[aG ie.eq_1]
      cases h5:decide (x.op=5)
      ·simp only[sim,af,θ,ξ,η,reduceCtorEq,ψ,ω,aa,hlt,i1,i2',o1,o2,hj,hx2,Int.reduceEq,h5,r1,hw]
       exact r2
      ·rw[h5,Bool.true_and]at hd
       simp only[sim,af,θ,ξ,η,reduceCtorEq,ψ,ω,aa,hlt,i1,i2',o1,o2,hj,hx2,Int.reduceEq,h5,hd,r1,hw]
       exact r2
     ·rw[km,if_neg hin,uE]
      rw[e4]at j2
      exact j2
   ·refine⟨h'.push [q],?_,by rw[nt hc];exact j.trans p⟩
    rw[aG ie.eq_1]
    simp only[sim,af,θ,ξ,η,reduceCtorEq,ψ,ω,aa,hlt,i1,i2',o1,o2,hj,hc]
theorem LF (nf:Nat) (hm:eW mv=some nf) (hft:∀ s,ew s (some tE) mv=true):∀ (N:Nat) (x:XD),SizeOf.sizeOf x≤N→x.size≤100000→∀ (r:List AV) (h:AH) (o:Int),ExA x r→0≤o→o≤12→h.cell b=some [[mv,.int .i64 0]]→b<h.n→
  ∃ h',aj Tryz.prog po 106 [.ptr b 0 0,.agg r,.int .i64 o] h=some (.inl (.tup []),h')∧JH b mv (x.fault nf o) h h':=by
 intro N
 induction N with
 | zero=>intro x hx;have:=x.so_pos;omega
 | succ N ih=>
   intro x hx hsz r h o he ho ho2 hb hlt
   obtain⟨v,es,e,hv,hl⟩:=he.row
   have m:∀ h,gk h v x.l:=fun h=>gk.of hv hl
   have o1:=(m h).one
   have l1:=(m h).len
   have f1:=(m h).fits
   have hlen:=x.len_size
   subst e
   have p:=JH.push hb hlt [[.int .i64 x.op,.int .i64 x.k,.int .i64 x.n,v]]
   have w0:(h.push [[.int .i64 x.op,.int .i64 x.k,.int .i64 x.n,v]]).cell h.n=some [[.int .i64 x.op,.int .i64 x.k,.int .i64 x.n,v]]:=ap
   have hbn:h.n≠b:=by omega
   obtain⟨h1,r1,j1⟩:=ed p.j (decide (bh x.op<0)) 2
   have w1:=(j1.old h.n (by simp only[bd];omega) hbn).trans w0
   have n1:h.n<h1.n:=Nat.lt_of_lt_of_le (by simp only[bd];omega) j1.n
   obtain⟨h2,r2,j2⟩:=ed j1.j (!decide ((x.l.length:Int)=bh x.op)) 5
   have w2:=(j2.old h.n n1 hbn).trans w1
   have n2:h.n<h2.n:=Nat.lt_of_lt_of_le n1 j2.n
   obtain⟨h3,r3,j3⟩:=Di j2.j (by omega) hm hft x.op x.k x.n o v o1
   have w3:=(j3.old h.n n2 hbn).trans w2
   have n3:h.n<h3.n:=Nat.lt_of_lt_of_le n2 j3.n
   obtain⟨h4,r4,j4⟩:=ed j3.j (decide (x.op=5) && decide (o=12)) 3
   have w4:=(j4.old h.n n3 hbn).trans w3
   have n4:h.n<h4.n:=Nat.lt_of_lt_of_le n3 j4.n
   rw[uE,←Vj]at j4
   have jj:=(((p.trans j1).trans j2).trans j3).trans j4
   obtain⟨h5,r5,j5⟩:=HL (h:=h) hlt nf x v m (by omega) o ho ho2 h (fun y hy q h o hq=>ih y (by have:=XD.lt_mem hy;omega) (by have:=XD.size_mem hy;omega) q h o hq) (.agg [.int .i64 x.op,.int .i64 x.k,.int .i64 x.n,v]) (.int .i64 (bh x.op)) x.l [] h4 _ .junk .junk .junk .junk .junk rfl jj n4 w4 (fun h5 h12=>by
    rw[h5,h12]
    exact Um _ _ _ _)
   simp only[List.length_nil,Int.natCast_zero]at r5
   rw[List.length_nil,←XD.fault_eq]at j5
   refine⟨h5,?_,j5⟩
   have cp:=Uj (h:=h.push [[.int .i64 x.op,.int .i64 x.k,.int .i64 x.n,v]]) x.op
   refine ag Ot rfl ?_;unfold D8
   cases e5:decide (x.op=5)<;>cases e12:decide (o=12)<;>simp only[e5,e12,Bool.and_true,Bool.and_false]at r4<;>
    (simp only[sim,af,θ,ξ,η,reduceCtorEq,ψ,ω,aa,o1,cp,r1,w1,l1,f1,r2,w2,r3,w3,e5,e12,r4,w4];exact r5)
end
section
variable {h:AH} {mv:AV}
theorem Oz {nf:Nat} (hnf:nf≤100000) (hm:eW mv=some nf) (hft:∀ s,ew s (some tE) mv=true) (op k n o:Int) (ho:0≤o) (ho2:o≤12) (v:AV) (rest:List RS) (v0 v1 v6 v7 v8 v9 v10 v11 v12 v13 v14 v15 v16 v17 v18 v19 v20 v21 v22 v23 v24:AV):
  (bU nf op k o=0∧∃ w7 w8 w14 w15 w16 w17 w18 w19 w20,aC (aj Tryz.prog po) 25 [.ss ((.ops [oR,jW])::(.ops [iW,(.i (.v 14) f9)])::(.block 0 [(.ops [(.i .l (.bin (.int .i64) .eql (.v 14) (.c (.int .i64 4)))),xB]),(.cond (.v 16) [(.ops [bN,gc,dE])] [(.ops [(.i .l (.bin (.int .i64) .eql (.v 14) (.c (.int .i64 6)))),mR]),(.cond (.v 17) [(.ops [(.i (.v 7) yh),(.i (.v 8) (.mv (.c (.int .i64 5))))])] [(.ops [(.i .l (.bin (.int .i64) .eql (.v 14) (.c (.int .i64 15)))),wQ]),(.cond (.v 18) [(.ops [(.i (.v 8) (.mv (.c (.int .i64 15))))])] [(.ops [(.i .l (.bin (.int .i64) .eql (.v 14) (.c (.int .i64 18)))),yZ]),(.cond (.v 19) [(.ops [g9,ai,jG,gc,dE])] [(.ops [jU,ai,CN]),(.cond (.v 15) [(.ops [xe]),.ret] [])])])])])])::(.ops [jU,ai,fx,Cv,aV,(.g (.l 0) false .l (.fad 1 (.v 4))),fG,(.g (.l 2) false .l (.mv (.v 8))),(.g (.l 3) false .l Dx),(.i (.v 20) qB)])::(.cond (.v 20) [(.ops [xj]),.ret] [])::rest)] [v0,v1,.int .i64 o,.ptr h.n 0 0,.ptr (h.n+1) 0 0,.int .i64 0,v6,v7,v8,v9,v10,v11,v12,v13,v14,v15,v16,v17,v18,v19,v20,v21,v22,v23,v24] [] ((h.push [[mv]]).push [[.int .i64 op,.int .i64 k,.int .i64 n,v]])=aC (aj Tryz.prog po) 25 [.ss rest] [v0,v1,.int .i64 o,.ptr h.n 0 0,.ptr (h.n+1) 0 0,.int .i64 0,v6,w7,w8,v9,v10,v11,v12,v13,w14,w15,w16,w17,w18,w19,w20,v21,v22,v23,v24] [] ((h.push [[mv]]).push [[.int .i64 op,.int .i64 k,.int .i64 n,v]]))∨
  (bU nf op k o≠0∧cFR true [.v 5] h (aC (aj Tryz.prog po) 25 [.ss ((.ops [oR,jW])::(.ops [iW,(.i (.v 14) f9)])::(.block 0 [(.ops [(.i .l (.bin (.int .i64) .eql (.v 14) (.c (.int .i64 4)))),xB]),(.cond (.v 16) [(.ops [bN,gc,dE])] [(.ops [(.i .l (.bin (.int .i64) .eql (.v 14) (.c (.int .i64 6)))),mR]),(.cond (.v 17) [(.ops [(.i (.v 7) yh),(.i (.v 8) (.mv (.c (.int .i64 5))))])] [(.ops [(.i .l (.bin (.int .i64) .eql (.v 14) (.c (.int .i64 15)))),wQ]),(.cond (.v 18) [(.ops [(.i (.v 8) (.mv (.c (.int .i64 15))))])] [(.ops [(.i .l (.bin (.int .i64) .eql (.v 14) (.c (.int .i64 18)))),yZ]),(.cond (.v 19) [(.ops [g9,ai,jG,gc,dE])] [(.ops [jU,ai,CN]),(.cond (.v 15) [(.ops [xe]),.ret] [])])])])])])::(.ops [jU,ai,fx,Cv,aV,(.g (.l 0) false .l (.fad 1 (.v 4))),fG,(.g (.l 2) false .l (.mv (.v 8))),(.g (.l 3) false .l Dx),(.i (.v 20) qB)])::(.cond (.v 20) [(.ops [xj]),.ret] [])::rest)] [v0,v1,.int .i64 o,.ptr h.n 0 0,.ptr (h.n+1) 0 0,.int .i64 0,v6,v7,v8,v9,v10,v11,v12,v13,v14,v15,v16,v17,v18,v19,v20,v21,v22,v23,v24] [] ((h.push [[mv]]).push [[.int .i64 op,.int .i64 k,.int .i64 n,v]]))=some (.inl (.int .i64 (bU nf op k o)),h)):=by
 have g2:ab h ((h.push [[mv]]).push [[.int .i64 op,.int .i64 k,.int .i64 n,v]]):=(ab.push h _).trans (ab.push _ _)
 have hw:=w64 (n:=o - 1) (by omega) (by omega)
 by_cases h4:op=4
 ·subst h4
  by_cases hk:k<0
  ·refine .inr ⟨by simp[bU,hk],?_⟩
   have e2:bU nf 4 k o=1:=by simp[bU,hk]
   rw[e2]
   simp only[sim,af,θ,ξ,η,reduceCtorEq,ψ,ω,aa,Int.reduceEq,hm,hft,hw,hk,aI g2 (rfl:wkA (.int .i64 1)=_)]
  ·by_cases hu:o≤k
   ·refine .inr ⟨by simp[bU,hu],?_⟩
    have e2:bU nf 4 k o=1:=by simp[bU,hu]
    have hu':(o - 1)<k:=by omega
    rw[e2]
    simp only[sim,af,θ,ξ,η,reduceCtorEq,ψ,ω,aa,Int.reduceEq,hm,hft,hw,hk,hu',aI g2 (rfl:wkA (.int .i64 1)=_)]
   ·refine .inl ⟨by simp[bU,hk,hu],.int .i64 0,.int .i64 (o - 1),.int .i64 4,v15,.bool true,v17,v18,v19,.bool false,?_⟩
    have hu':¬ (o - 1)<k:=by omega
    simp only[sim,af,θ,ξ,η,reduceCtorEq,ψ,ω,aa,Int.reduceEq,hm,hft,hw,hk,hu']
 by_cases h6:op=6
 ·subst h6
  by_cases hk:k<1
  ·refine .inr ⟨by simp[bU,hk],?_⟩
   have e2:bU nf 6 k o=1:=by simp[bU,hk]
   rw[e2]
   simp only[sim,af,θ,ξ,η,reduceCtorEq,ψ,ω,aa,Int.reduceEq,hm,hft,hw,hk,aI g2 (rfl:wkA (.int .i64 1)=_)]
  ·by_cases hu:5<k
   ·refine .inr ⟨by simp[bU,hu],?_⟩
    have e2:bU nf 6 k o=1:=by simp[bU,hu]
    have hu':5<k:=by omega
    rw[e2]
    simp only[sim,af,θ,ξ,η,reduceCtorEq,ψ,ω,aa,Int.reduceEq,hm,hft,hw,hk,hu',aI g2 (rfl:wkA (.int .i64 1)=_)]
   ·refine .inl ⟨by simp[bU,hk,hu],.int .i64 1,.int .i64 5,.int .i64 6,v15,.bool false,.bool true,v18,v19,.bool false,?_⟩
    have hu':¬ 5<k:=by omega
    simp only[sim,af,θ,ξ,η,reduceCtorEq,ψ,ω,aa,Int.reduceEq,hm,hft,hw,hk,hu']
 by_cases h15:op=15
 ·subst h15
  by_cases hk:k<0
  ·refine .inr ⟨by simp[bU,hk],?_⟩
   have e2:bU nf 15 k o=1:=by simp[bU,hk]
   rw[e2]
   simp only[sim,af,θ,ξ,η,reduceCtorEq,ψ,ω,aa,Int.reduceEq,hm,hft,hw,hk,aI g2 (rfl:wkA (.int .i64 1)=_)]
  ·by_cases hu:15<k
   ·refine .inr ⟨by simp[bU,hu],?_⟩
    have e2:bU nf 15 k o=1:=by simp[bU,hu]
    have hu':15<k:=by omega
    rw[e2]
    simp only[sim,af,θ,ξ,η,reduceCtorEq,ψ,ω,aa,Int.reduceEq,hm,hft,hw,hk,hu',aI g2 (rfl:wkA (.int .i64 1)=_)]
   ·refine .inl ⟨by simp[bU,hk,hu],.int .i64 0,.int .i64 15,.int .i64 15,v15,.bool false,.bool false,.bool true,v19,.bool false,?_⟩
    have hu':¬ 15<k:=by omega
    simp only[sim,af,θ,ξ,η,reduceCtorEq,ψ,ω,aa,Int.reduceEq,hm,hft,hw,hk,hu']
 by_cases h18:op=18
 ·subst h18
  have hw:=w64 (n:=(nf:Int) - 1) (by omega) (by omega)
  by_cases hk:k<0
  ·refine .inr ⟨by simp[bU,hk],?_⟩
   have e2:bU nf 18 k o=1:=by simp[bU,hk]
   rw[e2]
   simp only[sim,af,θ,ξ,η,reduceCtorEq,ψ,ω,aa,Int.reduceEq,hm,hft,hw,hk,aI g2 (rfl:wkA (.int .i64 1)=_)]
  ·by_cases hu:(nf:Int)≤k
   ·refine .inr ⟨by simp[bU,hu],?_⟩
    have e2:bU nf 18 k o=1:=by simp[bU,hu]
    have hu':((nf:Int) - 1)<k:=by omega
    rw[e2]
    simp only[sim,af,θ,ξ,η,reduceCtorEq,ψ,ω,aa,Int.reduceEq,hm,hft,hw,hk,hu',aI g2 (rfl:wkA (.int .i64 1)=_)]
   ·refine .inl ⟨by simp[bU,hk,hu],.int .i64 0,.int .i64 ((nf:Int) - 1),.int .i64 18,v15,.bool false,.bool false,.bool false,.bool true,.bool false,?_⟩
    have hu':¬ ((nf:Int) - 1)<k:=by omega
    simp only[sim,af,θ,ξ,η,reduceCtorEq,ψ,ω,aa,Int.reduceEq,hm,hft,hw,hk,hu']
 by_cases hk:k=0
 ·subst hk
  refine .inl ⟨by simp[bU,h4,h6,h15,h18],.int .i64 0,.int .i64 0,.int .i64 op,.bool false,.bool false,.bool false,.bool false,.bool false,.bool false,?_⟩
  simp only[sim,af,θ,ξ,η,reduceCtorEq,ψ,ω,aa,Int.lt_irrefl,eq_self,h4,h6,h15,h18]
 ·have e2:bU nf op k o=5:=by simp[bU,h4,h6,h15,h18,hk]
  refine .inr ⟨by rw[e2];decide,?_⟩
  rw[e2]
  simp only[sim,af,θ,ξ,η,reduceCtorEq,ψ,ω,aa,h4,h6,h15,h18,hk,aI g2 (rfl:wkA (.int .i64 5)=_)]
theorem T0 (nf:Int) (x:XD) (v:AV) (m:∀ h,gk h v x.l) (hL:x.l.length≤100000) (o:Int) (ho:0≤o) (ho2:o≤12) (ht:x.op=5→o≠12)
  (hf:∀ y∈x.l,∀ (q:List AV) (h:AH) (o:Int),ExA y q→0≤o→o≤12→aj Tryz.prog po 110 [.agg [mv],.agg q,.int .i64 o] h=some (.inl (.int .i64 (y.fault nf o)),h))
  (v0 v1 v7 v8 v12 v13 v14 v15 v16 v17 v18 v19 v20 v21:AV):∀ (l pre:List XD) (v10 v11 v22 v23 v24:AV),x.l=pre++l→
  cFR true [.v 5] h (aC (aj Tryz.prog po) 25 [.lp cS,.ss [],.blk 1,.ss [oe,.ret]] [v0,v1,.int .i64 o,.ptr h.n 0 0,.ptr (h.n+1) 0 0,.int .i64 0,.int .i64 (x.l.length:Int),v7,v8,.int .i64 pre.length,v10,v11,v12,v13,v14,v15,v16,v17,v18,v19,v20,v21,v22,v23,v24] [] ((h.push [[mv]]).push [[.int .i64 x.op,.int .i64 x.k,.int .i64 x.n,v]]))=some (.inl (.int .i64 (fq nf x.op pre.length l o)),h):=by
 have g2:ab h ((h.push [[mv]]).push [[.int .i64 x.op,.int .i64 x.k,.int .i64 x.n,v]]):=(ab.push h _).trans (ab.push _ _)
 intro l
 induction l with
 | nil=>
   intro pre v10 v11 v22 v23 v24 e
   have e':x.l=pre:=by simpa using e
   have hlt:¬ ((pre.length:Int)<(x.l.length:Int)):=by rw[e'];omega
   rw[aG cS.eq_1]
   simp only[sim,af,θ,ξ,η,reduceCtorEq,ψ,ω,aa,hlt,fq,aI g2 (rfl:wkA (.int .i64 0)=_)]
 | cons y l ih=>
   intro pre v10 v11 v22 v23 v24 e
   have hlt:(pre.length:Int)<(x.l.length:Int):=by rw[e];simp;omega
   obtain⟨a,q,i1,i2,i3⟩:=(m ((h.push [[mv]]).push [[.int .i64 x.op,.int .i64 x.k,.int .i64 x.n,v]])).ix pre.length y (by rw[e];simp)
   have i2':=i2 _ (ab.refl _)
   have hw:=w64 (n:=(pre.length:Int)+1) (by rw[e]at hL;simp at hL;omega) (by rw[e]at hL;simp at hL;omega)
   have e3:((pre++[y]).length:Int)=(pre.length:Int)+1:=by simp
   have e4:(pre++[y]).length=pre.length+1:=by simp
   by_cases hin:x.op=5∧pre.length=1
   ·obtain⟨hop,hp1⟩:=hin
    have ho12:=ht hop
    have hd5:decide ((pre.length:Int)=1)=true:=by simp[hp1]
    have hd6:decide (x.op=5)=true:=by simp[hop]
    have hwo:=w64 (n:=o+1) (by omega) (by omega)
    have cy:=hf y (by rw[e];simp) q ((h.push [[mv]]).push [[.int .i64 x.op,.int .i64 x.k,.int .i64 x.n,v]]) (o+1) i3 (by omega) (by omega)
    rw[km,if_pos ⟨hop,hp1⟩]
    by_cases hc:y.fault nf (o+1)=0
    ·have r1:=ih (pre++[y]) (.int .i64 (o+1)) (.int .i64 0) (.bool true) (.bool true) (.bool false) (by simp[e])
     rw[e3,e4]at r1
     rw[hc]at cy
     rw[hc,uE]
     rw[aG cS.eq_1]
     simp only[sim,af,θ,ξ,η,reduceCtorEq,ψ,ω,aa,hlt,i1,i2',hd5,hd6,hwo,cy,eq_self,hw]
     exact r1
    ·rw[nt hc]
     rw[aG cS.eq_1]
     simp only[sim,af,θ,ξ,η,reduceCtorEq,ψ,ω,aa,hlt,i1,i2',hd5,hd6,hwo,cy,hc,aI g2 (rfl:wkA (.int .i64 (y.fault nf (o+1)))=_)]
   ·have hd:(decide (x.op=5) && decide ((pre.length:Int)=1))=false:=by
     rw[Bool.and_eq_false_iff,decide_eq_false_iff_not,decide_eq_false_iff_not]
     by_cases h5:x.op=5
     ·exact .inr (fun hp=>hin ⟨h5,by omega⟩)
     ·exact .inl h5
    have cy:=hf y (by rw[e];simp) q ((h.push [[mv]]).push [[.int .i64 x.op,.int .i64 x.k,.int .i64 x.n,v]]) o i3 (by omega) (by omega)
    rw[km,if_neg hin]
    by_cases hc:y.fault nf o=0
    ·have r1:=ih (pre++[y]) (.int .i64 o) (.int .i64 0) (.bool true) (.bool false) (.bool false) (by simp[e])
     rw[e3,e4]at r1
     rw[hc]at cy
     rw[hc,uE]
     rw[aG cS.eq_1]
     cases h5:decide (x.op=5)
     ·simp only[sim,af,θ,ξ,η,reduceCtorEq,ψ,ω,aa,hlt,i1,i2',h5,cy,eq_self,hw]
      exact r1
     ·rw[h5,Bool.true_and]at hd
      simp only[sim,af,θ,ξ,η,reduceCtorEq,ψ,ω,aa,hlt,i1,i2',h5,hd,cy,eq_self,hw]
      exact r1
    ·rw[nt hc]
     rw[aG cS.eq_1]
     cases h5:decide (x.op=5)
     ·simp only[sim,af,θ,ξ,η,reduceCtorEq,ψ,ω,aa,hlt,i1,i2',h5,cy,hc,aI g2 (rfl:wkA (.int .i64 (y.fault nf o))=_)]
     ·rw[h5,Bool.true_and]at hd
      simp only[sim,af,θ,ξ,η,reduceCtorEq,ψ,ω,aa,hlt,i1,i2',h5,hd,cy,hc,aI g2 (rfl:wkA (.int .i64 (y.fault nf o))=_)]
theorem zt {nf:Nat} (hnf:nf≤100000) (hm:eW mv=some nf) (hft:∀ s,ew s (some tE) mv=true) (hmo:mv.one=true):∀ (N:Nat) (x:XD),SizeOf.sizeOf x≤N→x.size≤100000→∀ (r:List AV) (h:AH) (o:Int),ExA x r→0≤o→o≤12→
  aj Tryz.prog po 110 [.agg [mv],.agg r,.int .i64 o] h=some (.inl (.int .i64 (x.fault nf o)),h):=by
 intro N
 induction N with
 | zero=>intro x hx;have:=x.so_pos;omega
 | succ N ih=>
   intro x hx hsz r h o he ho ho2
   obtain⟨v,es,e,hv,hl⟩:=he.row
   have m:∀ h,gk h v x.l:=fun h=>gk.of hv hl
   have o1:=(m h).one
   have l1:=(m h).len
   have f1:=(m h).fits
   have hlen:=x.len_size
   subst e
   have g2:ab h ((h.push [[mv]]).push [[.int .i64 x.op,.int .i64 x.k,.int .i64 x.n,v]]):=(ab.push h _).trans (ab.push _ _)
   have cp:=LY (h:=((h.push [[mv]]).push [[.int .i64 x.op,.int .i64 x.k,.int .i64 x.n,v]])) x.op
   rw[XD.fault_eq]
   refine ag Cb rfl ?_;unfold rg
   by_cases h1:bh x.op<0
   ·have e2:gD nf x.op x.k x.n x.l.length o=2:=by simp[gD,h1]
    rw[e2,nt (by decide)]
    simp only[sim,af,θ,ξ,η,reduceCtorEq,ψ,ω,aa,hmo,o1,cp,h1,aI g2 (rfl:wkA (.int .i64 2)=_)]
   cases h2:decide ((x.l.length:Int)=bh x.op)
   ·have h2':¬ (x.l.length:Int)=bh x.op:=by simpa using h2
    have e2:gD nf x.op x.k x.n x.l.length o=5:=by simp[gD,h1,h2']
    rw[e2,nt (by decide)]
    simp only[sim,af,θ,ξ,η,reduceCtorEq,ψ,ω,aa,hmo,o1,cp,h1,l1,f1,h2,aI g2 (rfl:wkA (.int .i64 5)=_)]
   have h2':(x.l.length:Int)=bh x.op:=by simpa using h2
   by_cases h3:x.n≠0∧x.op≠2
   ·have e2:gD nf x.op x.k x.n x.l.length o=5:=by simp[gD,h1,h2',lH,h3]
    rw[e2,nt (by decide)]
    obtain⟨h31,h32⟩:=h3
    simp only[sim,af,θ,ξ,η,reduceCtorEq,ψ,ω,aa,hmo,o1,cp,h1,l1,f1,h2,h31,h32,aI g2 (rfl:wkA (.int .i64 5)=_)]
   have e3:lH nf x.op x.k x.n o=bU nf x.op x.k o:=by rw[Kg,if_neg h3,uE]
   have begin_:∀ K:List RS,aC (aj Tryz.prog po) 25 [.ss ((.ops [(.i (.v 3) (.box 1 (.v 0))),(.i (.v 4) (.box 4 (.v 1))),jF])::(.ops [iW,ai,(.i .l (.call (.c (.fn 125 [] [])) [(.l 0)])),dM])::(.ops [dQ,(.i (.v 12) BY)])::(.cond (.v 12) [(.ops [(.i (.v 5) yS)]),.ret] [])::K)] [.agg [mv],.agg [.int .i64 x.op,.int .i64 x.k,.int .i64 x.n,v],.int .i64 o,.junk,.junk,.junk,.junk,.junk,.junk,.junk,.junk,.junk,.junk,.junk,.junk,.junk,.junk,.junk,.junk,.junk,.junk,.junk,.junk,.junk,.junk] [] h=aC (aj Tryz.prog po) 25 [.ss K] [.agg [mv],.agg [.int .i64 x.op,.int .i64 x.k,.int .i64 x.n,v],.int .i64 o,.ptr h.n 0 0,.ptr (h.n+1) 0 0,.int .i64 0,.int .i64 (bh x.op),.junk,.junk,.junk,.junk,.junk,.bool false,.junk,.junk,.junk,.junk,.junk,.junk,.junk,.junk,.junk,.junk,.junk,.junk] [] ((h.push [[mv]]).push [[.int .i64 x.op,.int .i64 x.k,.int .i64 x.n,v]]):=by
    intro K
    simp only[sim,af,θ,ξ,η,reduceCtorEq,ψ,ω,aa,hmo,o1,cp,h1]
   have first:∀ K:List RS,aC (aj Tryz.prog po) 25 [.ss ((.ops [B9,ai,jG,dQ,yr,aV,(.g (.l 0) false .l (.fad 2 (.v 4))),fG,(.g (.l 2) false .l dT),I2,(.g (.l 0) true .l (.fad 0 (.v 4))),lE,C0,Gf,(.i (.v 13) GP)])::(.cond (.v 13) [(.ops [xe]),.ret] [])::K)] [.agg [mv],.agg [.int .i64 x.op,.int .i64 x.k,.int .i64 x.n,v],.int .i64 o,.ptr h.n 0 0,.ptr (h.n+1) 0 0,.int .i64 0,.int .i64 (bh x.op),.junk,.junk,.junk,.junk,.junk,.bool false,.junk,.junk,.junk,.junk,.junk,.junk,.junk,.junk,.junk,.junk,.junk,.junk] [] ((h.push [[mv]]).push [[.int .i64 x.op,.int .i64 x.k,.int .i64 x.n,v]])=aC (aj Tryz.prog po) 25 [.ss K] [.agg [mv],.agg [.int .i64 x.op,.int .i64 x.k,.int .i64 x.n,v],.int .i64 o,.ptr h.n 0 0,.ptr (h.n+1) 0 0,.int .i64 0,.int .i64 (bh x.op),.junk,.junk,.junk,.junk,.junk,.bool false,.bool false,.junk,.junk,.junk,.junk,.junk,.junk,.junk,.junk,.junk,.junk,.junk] [] ((h.push [[mv]]).push [[.int .i64 x.op,.int .i64 x.k,.int .i64 x.n,v]]):=by
    intro K
    cases hn0:decide (x.n=0)
    ·have hop:decide (x.op=2)=true:=by
      have hn0':x.n≠0:=by simpa using hn0
      simp only[decide_eq_true_eq]
      exact Classical.byContradiction fun hh=>h3 ⟨hn0',hh⟩
     simp only[sim,af,θ,ξ,η,reduceCtorEq,ψ,ω,aa,l1,f1,h2,hn0,hop]
    ·simp only[sim,af,θ,ξ,η,reduceCtorEq,ψ,ω,aa,l1,f1,h2,hn0]
   rcases Oz (h:=h) hnf hm hft x.op x.k x.n o ho ho2 v [(.ops [iW,ai,yT,aV,Hk,IN,(.i (.v 21) vP)]),(.cond (.v 21) [(.ops [(.i (.v 5) (.mv (.c (.int .i64 3))))]),.ret] []),(.ops [pa]),(.block 1 [(.loop cS)]),oe,.ret] (.agg [mv]) (.agg [.int .i64 x.op,.int .i64 x.k,.int .i64 x.n,v]) (.int .i64 (bh x.op)) (.junk) (.junk) (.junk) (.junk) (.junk) (.bool false) (.bool false) (.junk) (.junk) (.junk) (.junk) (.junk) (.junk) (.junk) (.junk) (.junk) (.junk) (.junk)with⟨h4,w7,w8,w14,w15,w16,w17,w18,w19,w20,r1⟩ | ⟨h4,r1⟩
   ·cases h5:(decide (x.op=5) && decide (o=12))
    ·have e2:gD nf x.op x.k x.n x.l.length o=0:=by
      simp only[Bool.and_eq_false_iff,decide_eq_false_iff_not]at h5
      simp only[gD,h1,if_false,h2',ne_eq,not_true,e3,h4]
      rw[if_neg]
      rintro⟨a,b⟩
      rcases h5 with h5 | h5
      ·exact h5 a
      ·exact h5 b
     rw[e2,uE]
     have r2:=T0 (h:=h) (mv:=mv) nf x v m (by omega) o ho ho2 (fun a b=>by simp[a,b]at h5) (fun y hy q h o hq=>ih y (by have:=XD.lt_mem hy;omega) (by have:=XD.size_mem hy;omega) q h o hq) (.agg [mv]) (.agg [.int .i64 x.op,.int .i64 x.k,.int .i64 x.n,v]) w7 w8 (.bool false) (.bool false) w14 w15 w16 w17 w18 w19 w20 (.bool false) x.l [] .junk .junk .junk .junk .junk rfl
     simp only[List.length_nil,Int.natCast_zero]at r2
     rw[h2']at r2
     refine(congrArg (cFR true [.v 5] h) ((begin_ _).trans ((first _).trans r1))).trans ?_
     cases e5:decide (x.op=5)
     ·simp only[sim,af,θ,ξ,η,reduceCtorEq,ψ,ω,aa,e5]
      exact r2
     ·rw[e5,Bool.true_and]at h5
      simp only[sim,af,θ,ξ,η,reduceCtorEq,ψ,ω,aa,e5,h5]
      exact r2
    ·have h5':=h5
     simp only[Bool.and_eq_true]at h5
     have e2:gD nf x.op x.k x.n x.l.length o=3:=by
      simp only[gD,h1,if_false,h2',ne_eq,not_true,e3,h4]
      simp only[decide_eq_true_eq]at h5
      rw[if_pos h5]
     rw[e2,nt (by decide)]
     refine(congrArg (cFR true [.v 5] h) ((begin_ _).trans ((first _).trans r1))).trans ?_
     simp only[sim,af,θ,ξ,η,reduceCtorEq,ψ,ω,aa,h5,aI g2 (rfl:wkA (.int .i64 3)=_)]
   ·have e2:gD nf x.op x.k x.n x.l.length o=bU nf x.op x.k o:=by
     simp only[gD,h1,if_false,h2',ne_eq,not_true,e3,h4,not_false_eq_true,if_true]
    rw[e2,nt h4]
    exact(congrArg (cFR true [.v 5] h) ((begin_ _).trans (first _))).trans r1
end
theorem nX (nf:Int) (i:Nat) (x:XD) (l:List XD):iz nf i (x::l)=if iw nf x≠0 then(iw nf x,(i:Int))else iz nf (i+1) l:=rfl
section
variable {h:AH}
theorem zd (v:AV) (L:List XD) (m:∀ h,gk h v L) (hL:L.length≤100000) (hs:∀ x∈L,x.size≤100000) (v0 v6:AV):∀ (l pre:List XD) (h':AH) (v4 v5 v7 v8 v9 v10:AV),L=pre++l→
  ab h h'→h.n+1<h'.n→h'.cell h.n=some [[v]]→h'.cell (h.n+1)=some [[.int .i64 0,.int .i64 0]]→
  cFR true [.cell true 2 2] h (aC (aj Tryz.prog po) 11 [.lp gP,.ss [],.blk 0,.ss [(.ops [xI,pw]),.ret]] [v0,.ptr h.n 0 0,.ptr (h.n+1) 0 0,.int .i64 pre.length,v4,v5,v6,v7,v8,v9,v10] [] h')=
   some (.inl (.agg [.int .i64 (iz L.length pre.length l).1,.int .i64 (iz L.length pre.length l).2]),h):=by
 intro l
 induction l with
 | nil=>
   intro pre h' v4 v5 v7 v8 v9 v10 e g hn c1 c2
   have e':L=pre:=by simpa using e
   have hlt:¬ ((pre.length:Int)<(L.length:Int)):=by rw[e'];omega
   rw[aG gP.eq_1]
   simp only[sim,af,θ,ξ,η,reduceCtorEq,ψ,ω,aa,c1,c2,(m h').len,(m h').fits,hlt,iz,aI (g.set (show h.n≤h.n+1 by omega)) (rfl:wkA (.agg [.int .i64 0,.int .i64 0])=_)]
 | cons y l ih=>
   intro pre h' v4 v5 v7 v8 v9 v10 e g hn c1 c2
   have hlt:(pre.length:Int)<(L.length:Int):=by rw[e];simp;omega
   obtain⟨a,q,i1,i2,i3⟩:=(m h').ix pre.length y (by rw[e];simp)
   have i2':=i2 _ (ab.refl h')
   obtain⟨o1,o2⟩:=i3.one
   have hys:=hs y (by rw[e];simp)
   have d1:(h'.push [q]).cell h.n=some [[v]]:=(bv (by omega)).trans c1
   have d2:(h'.push [q]).cell (h.n+1)=some [[.int .i64 0,.int .i64 0]]:=(bv hn).trans c2
   have g1:=g.trans (ab.push h' [q])
   have hw:=w64 (n:=(pre.length:Int)+1) (by rw[e]at hL;simp at hL;omega) (by rw[e]at hL;simp at hL;omega)
   have e3:((pre++[y]).length:Int)=(pre.length:Int)+1:=by simp
   have e4:(pre++[y]).length=pre.length+1:=by simp
   have cd:=Ie _ y (Nat.le_refl _) hys q (h'.push [q]) 30 i3 (by omega) (by omega)
   have cc:=uS _ y (Nat.le_refl _) q (h'.push [q]) 120 i3 (by omega) (by omega)
   have ce:=zt hL (m h').len (m h').fits (m h').one _ y (Nat.le_refl _) hys q (h'.push [q]) 0 i3 (by omega) (by omega)
   have g2:∀ es,ab h ((h'.push [q]).set (h.n+1) es):=fun es=>g1.set (by omega)
   have hwk:∀ a b:Int,wkA (.agg [.int .i64 a,.int .i64 b])=some (.agg [.int .i64 a,.int .i64 b]):=fun a b=>rfl
   rw[nX]
   rw[aG gP.eq_1]
   by_cases hd:30<y.depth
   ·have hd2:(30:Int)<min (y.depth:Int) (30+1):=by omega
    have ef:iw L.length y=4:=by simp[iw,hd]
    rw[ef,if_pos (by decide)]
    simp only[sim,af,θ,ξ,η,reduceCtorEq,ψ,ω,aa,c1,(m h').len,(m h').fits,hlt,i1,i2',o1,o2,d1,d2,cd,hd2,xH,aI (g2 _) (hwk _ _)]
   ·have hd2:¬ (30:Int)<min (y.depth:Int) (30+1):=by omega
    by_cases hc:120<y.size
    ·have hc2:(120:Int)<min (y.size:Int) (120+1):=by omega
     have ef:iw L.length y=3:=by simp[iw,hd,hc]
     rw[ef,if_pos (by decide)]
     simp only[sim,af,θ,ξ,η,reduceCtorEq,ψ,ω,aa,c1,(m h').len,(m h').fits,hlt,i1,i2',o1,o2,d1,d2,cd,hd2,cc,hc2,xH,aI (g2 _) (hwk _ _)]
    ·have hc2:¬ (120:Int)<min (y.size:Int) (120+1):=by omega
     have ef:iw L.length y=y.fault L.length 0:=by simp[iw,hd,hc]
     rw[ef]
     by_cases hf:y.fault L.length 0=0
     ·rw[if_neg (by simp[hf])]
      have r1:=ih (pre++[y]) (h'.push [q]) (.ptr h'.n 0 0) (.int .i64 0) (.bool true) (.bool false) (.bool false) (.bool false) (by simp[e]) g1 (by simp only[bd];omega) d1 d2
      rw[e3,e4]at r1
      rw[hf]at ce
      simp only[sim,af,θ,ξ,η,reduceCtorEq,ψ,ω,aa,c1,(m h').len,(m h').fits,hlt,i1,i2',o1,o2,d1,d2,cd,hd2,cc,hc2,ce,eq_self,hw]
      exact r1
     ·rw[if_pos hf]
      simp only[sim,af,θ,ξ,η,reduceCtorEq,ψ,ω,aa,c1,(m h').len,(m h').fits,hlt,i1,i2',o1,o2,d1,d2,cd,hd2,cc,hc2,ce,hf,xH,aI (g2 _) (hwk _ _)]
theorem zr (v:AV) (L:List XD) (m:∀ h,gk h v L) (hL:L.length≤100000) (hs:∀ x∈L,x.size≤100000):
  aj Tryz.prog po 82 [.agg [v]] h=some (.inl (.agg [.int .i64 (aU L).1,.int .i64 (aU L).2]),h):=by
 have o1:=(m h).one
 have l1:=(m h).len
 have f1:=(m h).fits
 have g2:ab h ((h.push [[v]]).push [[.int .i64 3,.int .i64 (-1)]]):=(ab.push h _).trans (ab.push _ _)
 have hwk:∀ a b:Int,wkA (.agg [.int .i64 a,.int .i64 b])=some (.agg [.int .i64 a,.int .i64 b]):=fun a b=>rfl
 refine ag CY rfl ?_;unfold rh
 by_cases h0:L.length=0
 ·have h0':(L.length:Int)<1:=by omega
  have e:aU L=(3, -1):=by simp[aU,h0]
  rw[e]
  simp only[sim,af,θ,ξ,η,reduceCtorEq,ψ,ω,aa,o1,l1,f1,h0',xH,aI g2 (hwk _ _)]
 ·have h0':¬ (L.length:Int)<1:=by omega
  by_cases h6:6<L.length
  ·have h6':(6:Int)<(L.length:Int):=by omega
   have e:aU L=(3, -1):=by simp[aU,h6]
   rw[e]
   simp only[sim,af,θ,ξ,η,reduceCtorEq,ψ,ω,aa,o1,l1,f1,h0',h6',xH,aI g2 (hwk _ _)]
  ·have h6':¬ (6:Int)<(L.length:Int):=by omega
   have e:aU L=iz L.length 0 L:=by simp only[aU,h0,h6,or_self,if_false]
   rw[e]
   have r1:=zd (h:=h) v L m hL hs (.agg [v]) (.bool false) L [] ((h.push [[v]]).push [[.int .i64 0,.int .i64 0]]) .junk .junk .junk .junk .junk .junk rfl ((ab.push h _).trans (ab.push _ _)) (by simp only[bd];omega) jl aq
   simp only[List.length_nil,Int.natCast_zero]at r1
   simp only[sim,af,θ,ξ,η,reduceCtorEq,ψ,ω,aa,o1,l1,f1,h0',h6']
   exact r1
theorem It (v:AV) (L:List XD) (m:gk h v L) (hL:L.length≤100000) (hs:∀ x∈L,x.size≤100000) (v0 v6:AV):∀ (l pre:List XD) (h':AH) (v3 v4 v5 v10 v11 v12:AV),L=pre++l→
  ab h h'→h.n+1<h'.n→h'.cell h.n=some [[v]]→h'.cell (h.n+1)=some [[.int .i64 0,.int .i64 0]]→
  cFR true [.cell true 2 2] h (aC (aj Tryz.prog po) 13 [.lp ke,.ss [],.blk 0,.ss [(.ops [xI,pw]),.ret]] [v0,.ptr h.n 0 0,.ptr (h.n+1) 0 0,v3,v4,v5,v6,v,.int .i64 L.length,.int .i64 pre.length,v10,v11,v12] [] h')=
   some (.inl (.agg [.int .i64 (iz L.length pre.length l).1,.int .i64 (iz L.length pre.length l).2]),h):=by
 intro l
 induction l with
 | nil=>
   intro pre h' v3 v4 v5 v10 v11 v12 e g hn c1 c2
   have e':L=pre:=by simpa using e
   have hlt:¬ ((pre.length:Int)<(L.length:Int)):=by rw[e'];omega
   rw[aG ke.eq_1]
   simp only[sim,af,θ,ξ,η,reduceCtorEq,ψ,ω,aa,c2,hlt,iz,aI (g.set (show h.n≤h.n+1 by omega)) (rfl:wkA (.agg [.int .i64 0,.int .i64 0])=_)]
 | cons y l ih=>
   intro pre h' v3 v4 v5 v10 v11 v12 e g hn c1 c2
   have hlt:(pre.length:Int)<(L.length:Int):=by rw[e];simp;omega
   obtain⟨a,q,i1,i2,i3⟩:=m.ix pre.length y (by rw[e];simp)
   have i2':=i2 _ g
   obtain⟨o1,o2⟩:=i3.one
   have hys:=hs y (by rw[e];simp)
   have ov:=m.one
   have d1:(h'.push [q]).cell h.n=some [[v]]:=(bv (by omega)).trans c1
   have hw:=w64 (n:=(pre.length:Int)+1) (by rw[e]at hL;simp at hL;omega) (by rw[e]at hL;simp at hL;omega)
   have e3:((pre++[y]).length:Int)=(pre.length:Int)+1:=by simp
   have e4:(pre++[y]).length=pre.length+1:=by simp
   have hwk:∀ a b:Int,wkA (.agg [.int .i64 a,.int .i64 b])=some (.agg [.int .i64 a,.int .i64 b]):=fun a b=>rfl
   -- the judge
   have gj:ab h ((h'.push [q]).push [[v,.int .i64 0]]):=(g.trans (ab.push h' [q])).trans (ab.push _ _)
   have jb:((h'.push [q]).push [[v,.int .i64 0]]).cell (h'.n+1)=some [[v,.int .i64 0]]:=aq
   have cd:=L5 _ y (Nat.le_refl _) hys q ((h'.push [q]).push [[v,.int .i64 0]]) 30 i3 (by omega) (by omega)
   have keep:∀ {h1 h2:AH} {c:Int},JH (h'.n+1) v c h1 h2→h'.n+1<h1.n→h1.cell h'.n=some [q]→h1.cell h.n=some [[v]]→h1.cell (h.n+1)=some [[.int .i64 0,.int .i64 0]]→
     h2.cell h'.n=some [q]∧h2.cell h.n=some [[v]]∧h2.cell (h.n+1)=some [[.int .i64 0,.int .i64 0]]∧h'.n+1<h2.n:=fun{h1 h2 c} j n1 k1 k2 k3=>
    ⟨(j.old _ (by omega) (by omega)).trans k1,(j.old _ (by omega) (by omega)).trans k2,(j.old _ (by omega) (by omega)).trans k3,Nat.lt_of_lt_of_le n1 j.n⟩
   have k0:((h'.push [q]).push [[v,.int .i64 0]]).cell h'.n=some [q]:=jl
   have k1:((h'.push [q]).push [[v,.int .i64 0]]).cell h.n=some [[v]]:=(bv (by simp only[bd];omega)).trans d1
   have k2:((h'.push [q]).push [[v,.int .i64 0]]).cell (h.n+1)=some [[.int .i64 0,.int .i64 0]]:=(bv (by simp only[bd];omega)).trans ((bv hn).trans c2)
   have kn:h'.n+1<((h'.push [q]).push [[v,.int .i64 0]]).n:=by simp only[bd];omega
   obtain⟨h1,r1,j1⟩:=ed jb (!decide ((y.depth:Int)≤30)) 4
   obtain⟨p0,p1,p2,pn⟩:=keep j1 kn k0 k1 k2
   have g1:=JH.grew gj (by omega) j1
   have cc:=HE _ y (Nat.le_refl _) q h1 120 i3 (by omega) (by omega)
   rw[nX]
   rw[aG ke.eq_1]
   by_cases hd:30<y.depth
   ·have hd2:¬ (y.depth:Int)≤30:=by omega
    have ef:iw L.length y=4:=by simp[iw,hd]
    rw[ef,if_pos (by decide)]
    have e1:orF 0 (if(!decide ((y.depth:Int)≤30))=true then 4 else 0)=4:=by simp[orF,hd2]
    rw[e1]at j1
    obtain⟨h2,r2,j2⟩:=ed j1.j false 3
    rw[if_neg (by simp),P3]at j2
    obtain⟨s0,s1,s2,sn⟩:=keep j2 pn p0 p1 p2
    have g3:=(JH.grew g1 (by have:=g.n;omega) j2).set (b:=h.n+1) (es:=some [[.int .i64 4,.int .i64 pre.length]]) (by omega)
    have q1:=j1.j
    have q2:=j2.j
    simp only[hd2,decide_false,Bool.not_false]at r1
    simp only[sim,af,θ,ξ,η,reduceCtorEq,ψ,ω,aa,c1,hlt,i1,i2',o1,o2,ov,d1,cd,hd2,jb,k0,r1,p0,q1,Int.reduceEq,r2,q2,s0,s2,aI g3 (hwk _ _)]
   ·have hd2:(y.depth:Int)≤30:=by omega
    have e1:orF 0 (if(!decide ((y.depth:Int)≤30))=true then 4 else 0)=0:=by simp[orF,hd2]
    rw[e1]at j1
    have q1:=j1.j
    obtain⟨h2,r2,j2⟩:=ed j1.j (decide (max (120 - (y.size:Int)) (-1)<0)) 3
    rw[uE]at j2
    obtain⟨s0,s1,s2,sn⟩:=keep j2 pn p0 p1 p2
    have g2:=JH.grew g1 (by have:=g.n;omega) j2
    simp only[hd2,decide_true,Bool.not_true]at r1
    by_cases hc:120<y.size
    ·have hc2:max (120 - (y.size:Int)) (-1)<0:=by omega
     have ef:iw L.length y=3:=by simp[iw,hd,hc]
     rw[ef,if_pos (by decide)]
     rw[if_pos (by simpa using hc2)]at j2
     have q2:=j2.j
     have g3:=g2.set (b:=h.n+1) (es:=some [[.int .i64 3,.int .i64 pre.length]]) (by omega)
     simp only[hc2,decide_true]at r2
     simp only[sim,af,θ,ξ,η,reduceCtorEq,ψ,ω,aa,c1,hlt,i1,i2',o1,o2,ov,d1,cd,hd2,jb,k0,r1,p0,q1,eq_self,cc,hc2,Int.reduceEq,r2,q2,s0,s2,aI g3 (hwk _ _)]
    ·have hc2:¬ max (120 - (y.size:Int)) (-1)<0:=by omega
     have ef:iw L.length y=y.fault L.length 0:=by simp[iw,hd,hc]
     rw[ef]
     rw[if_neg (by simpa using hc2)]at j2
     have q2:=j2.j
     simp only[hc2,decide_false]at r2
     obtain⟨h3,r3,j3⟩:=LF (b:=h'.n+1) L.length m.len m.fits _ y (Nat.le_refl _) hys q h2 0 i3 (by omega) (by omega) j2.j sn
     obtain⟨t0,t1,t2,tn⟩:=keep j3 sn s0 s1 s2
     have q3:=j3.j
     have g3:=JH.grew g2 (by have:=g.n;omega) j3
     by_cases hf:y.fault L.length 0=0
     ·rw[if_neg (by simp[hf])]
      have rr:=ih (pre++[y]) h3 (.int .i64 pre.length) (.ptr h'.n 0 0) (.ptr (h'.n+1) 0 0) (.bool true) (.bool true) (.bool false) (by simp[e]) g3 (by have:=g.n;omega) t1 t2
      rw[e3,e4]at rr
      rw[hf]at q3
      simp only[sim,af,θ,ξ,η,reduceCtorEq,ψ,ω,aa,c1,hlt,i1,i2',o1,o2,ov,d1,cd,hd2,jb,k0,r1,p0,q1,eq_self,cc,hc2,Int.reduceEq,r2,q2,s0,r3,q3,hw]
      exact rr
     ·rw[if_pos hf]
      have g4:=g3.set (b:=h.n+1) (es:=some [[.int .i64 (y.fault L.length 0),.int .i64 pre.length]]) (by omega)
      simp only[sim,af,θ,ξ,η,reduceCtorEq,ψ,ω,aa,c1,hlt,i1,i2',o1,o2,ov,d1,cd,hd2,jb,k0,r1,p0,q1,eq_self,cc,hc2,Int.reduceEq,r2,q2,s0,r3,q3,hf,t2,aI g4 (hwk _ _)]
theorem MV (v:AV) (L:List XD) (m:gk h v L) (hL:L.length≤100000) (hs:∀ x∈L,x.size≤100000):
  aj Tryz.prog po 78 [.agg [v]] h=some (.inl (.agg [.int .i64 (aU L).1,.int .i64 (aU L).2]),h):=by
 have o1:=m.one
 have l1:=m.len
 have f1:=m.fits
 have g2:ab h ((h.push [[v]]).push [[.int .i64 3,.int .i64 (-1)]]):=(ab.push h _).trans (ab.push _ _)
 have hwk:∀ a b:Int,wkA (.agg [.int .i64 a,.int .i64 b])=some (.agg [.int .i64 a,.int .i64 b]):=fun a b=>rfl
 refine ag Mt rfl ?_;unfold Aq
 by_cases h0:L.length=0
 ·have h0':decide ((L.length:Int)=0)=true:=by simp[h0]
  have e:aU L=(3, -1):=by simp[aU,h0]
  rw[e]
  simp only[sim,af,θ,ξ,η,reduceCtorEq,ψ,ω,aa,o1,l1,f1,h0',aI g2 (hwk _ _)]
 ·have h0':decide ((L.length:Int)=0)=false:=by rw[decide_eq_false_iff_not];omega
  by_cases h6:6<L.length
  ·have h6':(6:Int)<(L.length:Int):=by omega
   have e:aU L=(3, -1):=by simp[aU,h6]
   rw[e]
   simp only[sim,af,θ,ξ,η,reduceCtorEq,ψ,ω,aa,o1,l1,f1,h0',h6',aI g2 (hwk _ _)]
  ·have h6':¬ (6:Int)<(L.length:Int):=by omega
   have e:aU L=iz L.length 0 L:=by simp only[aU,h0,h6,or_self,if_false]
   rw[e]
   have r1:=It (h:=h) v L m hL hs (.agg [v]) (.bool false) L [] ((h.push [[v]]).push [[.int .i64 0,.int .i64 0]]) .junk .junk .junk .junk .junk .junk rfl ((ab.push h _).trans (ab.push _ _)) (by simp only[bd];omega) jl aq
   simp only[List.length_nil,Int.natCast_zero]at r1
   simp only[sim,af,θ,ξ,η,reduceCtorEq,ψ,ω,aa,o1,l1,f1,h0',h6']
   exact r1
theorem Tv {L:List XD} (hg:jg L=false):L.length≤20∧∀ x∈L,x.size≤600:=by
 simp only[jg,Bool.or_eq_false_iff,decide_eq_false_iff_not,List.any_eq_false]at hg
 exact⟨by omega,fun x hx=>by have:=hg.2 x hx;simpa using this⟩
end
abbrev tI:TypeId:=184
abbrev tIs:TypeId:=174
abbrev de (x:bq):List AV:=[.int .i64 x.op,.int .i64 x.k,.int .i64 x.n]
def MkS (v:AV) (l:List bq) (h:AH):Prop:=(l=[]∧v= .nils)∨∃ q,l≠[]∧q<h.n∧v= .msl q 0 l.length tI∧h.cell q=some (l.map de)
structure MkH (b:Nat) (l:List bq) (h:AH):Prop where
 lt:b<h.n
 s:∃ v,h.cell b=some [[v]]∧MkS v l h
structure MkT (b:Nat) (h h':AH):Prop where
 n:h.n≤h'.n
 ids:h.ids≤h'.ids
 hw:∀ k,k<h.ids→h'.hw k=h.hw k
 old:∀ k,k<h.n→k≠b→(∀ m,h.cell b≠some [[.msl k 0 m tI]])→h'.cell k=h.cell k
 cur:∀ k,k<h.n→∀ m,h'.cell b=some [[.msl k 0 m tI]]→∃ m',h.cell b=some [[.msl k 0 m' tI]]
theorem MkT.trans {b:Nat} {h h' h'':AH} (x:MkT b h h') (y:MkT b h' h''):MkT b h h'':=by
 refine⟨Nat.le_trans x.n y.n,Nat.le_trans x.ids y.ids,fun k hk=>(y.hw k (Nat.lt_of_lt_of_le hk x.ids)).trans (x.hw k hk),fun k hk hb hc=> ?_,fun k hk m e=> ?_⟩
 ·refine(y.old k (Nat.lt_of_lt_of_le hk x.n) hb fun m e=> ?_).trans (x.old k hk hb hc)
  obtain⟨m',e'⟩:=x.cur k hk m e
  exact hc m' e'
 ·obtain⟨m',e'⟩:=y.cur k (Nat.lt_of_lt_of_le hk x.n) m e
  exact x.cur k hk m' e'
theorem MkT.push {b:Nat} {h:AH} (hb:b<h.n) (es:List (List AV)):MkT b h (h.push es):=
 ⟨by simp[AH.push],by simp[AH.push],fun _ _=>rfl,fun k hk _ _=>bv hk,fun k hk m e=>⟨m,(bv hb).symm.trans e⟩⟩
theorem MkH.push {b:Nat} {l:List bq} {h:AH} (m:MkH b l h) (es:List (List AV)):MkH b l (h.push es):=by
 obtain⟨hb,v,hv,hs⟩:=m
 refine⟨by simp only[bd];omega,v,(bv hb).trans hv,?_⟩
 rcases hs with hs | ⟨q,h1,h2,h3,h4⟩
 ·exact .inl hs
 ·exact .inr ⟨q,h1,by simp only[bd];omega,h3,(bv h2).trans h4⟩
structure Own (b c:Nat) (r:List (List AV)) (h:AH):Prop where
 lt:c<h.n
 ne:c≠b
 nc:∀ m,h.cell b≠some [[.msl c 0 m tI]]
 c:h.cell c=some r
theorem Own.on {b c:Nat} {r:List (List AV)} {h h':AH} (o:Own b c r h) (x:MkT b h h'):Own b c r h':=
 ⟨Nat.lt_of_lt_of_le o.lt x.n,o.ne,fun m e=>(x.cur c o.lt m e).elim fun m' e'=>o.nc m' e',(x.old c o.lt o.ne o.nc).trans o.c⟩
theorem Own.new {b:Nat} {l:List bq} {h:AH} (m:MkH b l h) (r:List (List AV)):Own b h.n r (h.push r):=by
 obtain⟨hb,v,hv,hs⟩:=m
 refine⟨by simp[AH.push],by omega,fun j e=> ?_,ap⟩
 rw[bv hb,hv]at e
 rcases hs with⟨_,rfl⟩ | ⟨q,h1,h2,rfl,h4⟩
 ·simp at e
 ·simp only[Option.some.injEq,List.cons.injEq,AV.msl.injEq,and_true]at e
  omega
section
variable {h:AH}
theorem YH {b:Nat} {l:List bq} {v:AV} (hb:b<h.n) (hv:h.cell b=some [[v]]) (hs:MkS v l h) (hl:l.length≤1000000) (x:bq):
  ∃ h',aQ true tI v (.msl h.n 0 1 tI) (h.push [de x])=some (.msl (h.n+1) 0 (l.length+1) tI,h')∧h'.cell b=some [[v]]∧MkH b (l++[x]) (h'.set b (some [[.msl (h.n+1) 0 (l.length+1) tI]]))∧MkT b h (h'.set b (some [[.msl (h.n+1) 0 (l.length+1) tI]])):=by
 rcases hs with⟨rfl,rfl⟩ | ⟨q,h1,h2,rfl,h4⟩
 ·have c1:((h.push [de x]).push [de x]).cell b=some [[.nils]]:=(bv (by simp only[bd];omega)).trans ((bv hb).trans hv)
  refine⟨(h.push [de x]).push [de x],?_,c1,⟨by simp only[fI,bd];omega,_,bR,.inr ⟨h.n+1,by simp,by simp only[fI,bd];omega,rfl,?_⟩⟩,?_⟩
  ·simp[aQ,cE,eS,ap,bd,AV.one]
  ·rw[bu (by omega)]
   exact aq
  ·refine⟨by simp only[fI,bd];omega,Nat.le_refl _,fun _ _=>rfl,fun k hk hn _=>(bu hn).trans ((bv (by simp only[bd];omega)).trans (bv hk)),fun k hk m e=> ?_⟩
   rw[bR]at e
   simp at e
   omega
 ·have hqb:q≠b:=by
   intro e
   rw[e,hv]at h4
   cases l with
   | nil=>exact h1 rfl
   | cons y l=>simp at h4
  have hlen:(l.map de).length=l.length:=by simp
  have c0:((h.push [de x]).cell q)=some (l.map de):=(bv h2).trans h4
  refine⟨((h.push [de x]).set q none).push (l.map de++[de x]),?_,?_,⟨by simp only[fI,bd];omega,_,bR,.inr ⟨h.n+1,by simp,by simp only[fI,bd];omega,by simp,?_⟩⟩,?_⟩
  ·simp only[aQ,cE,if_true,ap,Option.bind_some,List.length_singleton,Nat.zero_add,Nat.le_refl,List.drop_zero,List.take_succ_cons,List.take_zero,Nat.one_ne_zero,if_false,eS]
   rw[if_pos ⟨by omega,by omega,by simp[AV.one]⟩,if_pos ⟨trivial,trivial,hl⟩,c0]
   have ht:List.take l.length (l.map de)=l.map de:=by rw[←hlen,List.take_length]
   simp[bd,ht]
  ·rw[bv (by simp only[fI,bd];omega),bu (Ne.symm hqb),bv hb]
   exact hv
  ·rw[bu (by omega)]
   have:=ap (h:=(h.push [de x]).set q none) (es:=l.map de++[de x])
   simpa[fI,bd]using this
  ·refine⟨by simp only[fI,bd];omega,Nat.le_refl _,fun _ _=>rfl,fun k hk hn hc=> ?_,fun k hk m e=> ?_⟩
   ·have:k≠q:=by
     rintro rfl
     exact hc l.length hv
    rw[bu hn,bv (by simp only[fI,bd];omega),bu this,bv hk]
   ·rw[bR]at e
    simp at e
    omega
theorem kU {b:Nat} {l:List bq} (m:MkH b l h) (hl:l.length≤1000000) (op k n:Int):
  ∃ h',aj Tryz.prog po 80 [.ptr b 0 0,.int .i64 op,.int .i64 k,.int .i64 n] h=some (.inl (.int .i64 l.length),h')∧MkH b (l++[⟨op,k,n⟩]) h'∧MkT b h h':=by
 obtain⟨hb,v,hv,hs⟩:=m
 obtain⟨h',e1,c1,m1,t1⟩:=YH hb hv hs hl ⟨op,k,n⟩
 refine⟨_,?_,m1,t1⟩
 have hw:=w64 (n:=((l.length+1:Nat):Int) - 1) (by omega) (by omega)
 have e2:((l.length+1:Nat):Int) - 1=(l.length:Int):=by omega
 rw[e2]at hw
 refine ag UE rfl ?_;unfold Jm
 simp only[sim,af,θ,ξ,η,reduceCtorEq,ψ,ω,aa,hv,e1,c1,e2,hw]
theorem Ac {b:Nat} {A B:List bq} {x:bq} (m:MkH b (A++x::B) h) (hl:(A++x::B).length≤1000000):
  ∃ h',aj Tryz.prog po 107 [.ptr b 0 0,.int .i64 A.length] h=some (.inl (.tup []),h')∧MkH b (A++⟨x.op,((A++x::B).length:Nat),x.n⟩::B) h'∧MkT b h h':=by
 obtain⟨hb,v,hv,hs⟩:=m
 rcases hs with⟨e,rfl⟩ | ⟨q,h1,h2,rfl,h4⟩
 ·simp at e
 ·have hqb:q≠b:=by
   intro e
   rw[e,hv]at h4
   cases A<;>simp at h4
  have hix:bL (some tI) none (.msl q 0 (A++x::B).length tI) (.int .i64 (A.length:Int))=some (.ptr q A.length 0):=by
   rw[qO rfl (by simp),Nat.zero_add]
  have hg:((A++x::B).map de)[A.length]? =some (de x):=by simp
  have hset:((A++x::B).map de).set A.length [.int .i64 x.op,.int .i64 ((A++x::B).length:Int),.int .i64 x.n]=(A++⟨x.op,((A++x::B).length:Nat),x.n⟩::B).map de:=by
   simp
  refine⟨h.set q (some ((A++⟨x.op,((A++x::B).length:Nat),x.n⟩::B).map de)),?_,⟨hb,_,(bu (Ne.symm hqb)).trans hv,.inr ⟨q,by simp,h2,by simp,bR⟩⟩,?_⟩
  ·refine ag SJ rfl ?_;unfold FR
   simp only[sim,af,θ,ξ,η,reduceCtorEq,ψ,ω,aa,hv,hix,h4,hg,hset]
  ·refine⟨Nat.le_refl _,Nat.le_refl _,fun _ _=>rfl,fun k hk hn hc=>bu (by rintro rfl;exact hc _ hv),fun k hk m e=> ?_⟩
   rw[bu (Ne.symm hqb)]at e
   exact⟨m,e⟩
end
theorem zG (f:Nat→List bq):∀ (fs:List (Nat→List bq)) (p:Nat),jK (fs++[f]) p=jK fs p++f (p+(jK fs p).length)
 | [],p=>by simp[jK]
 | g::fs,p=>by
   simp only[List.cons_append,jK,zG f fs,List.length_append,List.append_assoc]
   rw[show p+(g p).length+(jK fs (p+(g p).length)).length=p+((g p).length+(jK fs (p+(g p).length)).length) by omega]
theorem Jb {l:List XD}:∀ {i:Nat} {y:XD},l[i]? =some y→bc (l.take i)+y.size≤bc l:=by
 induction l with
 | nil=>intro i y h;simp at h
 | cons x l ih=>
   intro i y h
   cases i with
   | zero=>
     obtain rfl:x=y:=by simpa using h
     simp[bc]
   | succ i=>
     have:=ih (i:=i) (y:=y) (by simpa using h)
     simp only[List.take_succ_cons,bc]
     omega
theorem zE (l:List XD) (p:Nat):(jK (l.map aF) p).length≤3*bc l:=xZ l p fun y _ p=>gu _ y (Nat.le_refl _) p
section
variable {h:AH}
set_option maxHeartbeats 1000000 in
set_option maxRecDepth 20000 in
theorem L6 (nf:Int):∀ (N:Nat) (x:XD),SizeOf.sizeOf x≤N→∀ (o:Int),x.fault nf o=0→∀ (r:List AV) (h:AH) (b:Nat) (l:List bq),ExA x r→MkH b l h→l.length+3*x.size≤100000→
  ∃ h',aj Tryz.prog po 79 [.ptr b 0 0,.agg r] h=some (.inl (.tup []),h')∧(MkH b (l++aF x l.length) h'∧MkT b h h'):=by
 intro N
 induction N with
 | zero=>intro x hx;have:=x.so_pos;omega
 | succ N ih=>
   intro x hx o hf r h b l he m hl
   obtain⟨v,es,rfl,hsl,hv,hn,hix⟩:=he.facts
   obtain⟨f1,f2,f3,f4,f5⟩:=lu hf
   have hs:=x.size_eq
   obtain⟨h2,e2,m2,t2⟩:=kU (m.push [[.int .i64 x.op,.int .i64 x.k,.int .i64 x.n,v]]) (by omega) 100 0 0
   have o2:=(Own.new m [[.int .i64 x.op,.int .i64 x.k,.int .i64 x.n,v]]).on t2
   have t2:=(MkT.push m.lt [[.int .i64 x.op,.int .i64 x.k,.int .i64 x.n,v]]).trans t2
   have ih':∀ y∈x.l,∀ (o:Int),y.fault nf o=0→∀ (r:List AV) (h:AH) (l:List bq),ExA y r→MkH b l h→l.length+3*y.size≤100000→
    ∃ h',aj Tryz.prog po 79 [.ptr b 0 0,.agg r] h=some (.inl (.tup []),h')∧(MkH b (l++aF y l.length) h'∧MkT b h h'):=fun y hy o hf r h l=>ih y (by have:=XD.lt_mem hy;omega) o hf r h b l
   rw[ky]
   have lp:∀ (i:Nat) (y:XD),x.l[i]? =some y→y∈x.l:=fun i y hy=>List.mem_of_getElem? hy
   by_cases h5:x.op=5
   ·rw[h5]at f2 f5 e2 o2
    have hl2:x.l.length=2:=by simp[bh]at f2;omega
    obtain⟨a,c,hac⟩:=Zx hl2
    rw[hac]at f5 hs
    obtain⟨g1,g2⟩:=f8 f5
    obtain⟨g3,_⟩:=f8 g2
    simp only[Nat.zero_ne_one,and_false,if_false,and_self,if_true,Nat.zero_add]at g1 g3
    simp only[bc]at hs
    obtain⟨q1,i1,d1,x1⟩:=hix 0 a (by rw[hac];rfl)
    obtain⟨q2,i2,d2,x2⟩:=hix 1 c (by rw[hac];rfl)
    have i1:bL (some tE) none v (.int .i64 0)=some (.ip q1 0):=i1
    have i2:bL (some tE) none v (.int .i64 1)=some (.ip q2 0):=i2
    obtain⟨h3,e3,m3,t3⟩:=ih' a (by rw[hac];simp) o (by simpa using g1) q1 h2 _ x1 m2 (by simp only[List.length_append,List.length_singleton];omega)
    have n1:=gu _ a (Nat.le_refl _) (l++[(⟨100,0,0⟩:bq)]).length
    have o3:=o2.on t3
    obtain⟨h4,e4,m4,t4⟩:=kU m3 (by simp only[List.length_append,List.length_singleton]at n1 ⊢;omega) 101 0 0
    have o4:=o3.on t4
    obtain⟨h5',e5,m5,t5⟩:=ih' c (by rw[hac];simp) (o+1) g3 q2 h4 _ x2 m4 (by simp only[List.length_append,List.length_singleton]at n1 ⊢;omega)
    have n2:=gu _ c (Nat.le_refl _) (l++[(⟨100,0,0⟩:bq)]++aF a (l++[(⟨100,0,0⟩:bq)]).length++[(⟨101,0,0⟩:bq)]).length
    obtain⟨h6,e6,m6,t6⟩:=kU m5 (by simp only[List.length_append,List.length_singleton]at n1 n2 ⊢;omega) 102 0 0
    refine Jc xJ rfl fun Q hQ=> ?_;unfold rn
    simp only[sim,af,θ,ξ,η,reduceCtorEq,ψ,ω,aa,hv,e2,o2.c,h5,Int.reduceEq,i1,d1,e3,e4,o4.c,i2,d2,e5,e6]
    refine hQ _ _ rfl ⟨?_,(((t2.trans t3).trans t4).trans t5).trans t6⟩
    have e1:(l++[(⟨100,0,0⟩:bq)]).length=l.length+1:=by simp
    rw[e1]at m6
    have e4:(l++[(⟨100,0,0⟩:bq)]++aF a (l.length+1)++[(⟨101,0,0⟩:bq)]).length=l.length+1+(aF a (l.length+1)).length+1:=by simp;omega
    rw[e4]at m6
    rw[hac,h5]
    simpa only[zk,X8,if_true,List.map_cons,List.map_nil,List.append_assoc,List.cons_append,List.nil_append]using m6
   ·have hall:=jf h5 f5
    by_cases h7:x.op=7
    ·rw[h7]at f2 e2 o2
     have hl2:x.l.length=3:=by simp[bh]at f2;omega
     obtain⟨a,c,d,hac⟩:=Wn hl2
     rw[hac]at hs hall
     simp only[bc]at hs
     obtain⟨q1,i1,d1,x1⟩:=hix 0 a (by rw[hac];rfl)
     obtain⟨q2,i2,d2,x2⟩:=hix 1 c (by rw[hac];rfl)
     obtain⟨q3,i3,d3,x3⟩:=hix 2 d (by rw[hac];rfl)
     have i1:bL (some tE) none v (.int .i64 0)=some (.ip q1 0):=i1
     have i2:bL (some tE) none v (.int .i64 1)=some (.ip q2 0):=i2
     have i3:bL (some tE) none v (.int .i64 2)=some (.ip q3 0):=i3
     obtain⟨h3,e3,m3,t3⟩:=ih' a (by rw[hac];simp) o (hall a (by simp)) q1 h2 _ x1 m2 (by simp only[List.length_append,List.length_singleton];omega)
     have n1:=gu _ a (Nat.le_refl _) (l++[(⟨100,0,0⟩:bq)]).length
     generalize hA:l++[(⟨100,0,0⟩:bq)]++aF a (l++[(⟨100,0,0⟩:bq)]).length=A at m3
     have lA:A.length≤l.length+1+3*a.size:=by rw[←hA];simp only[List.length_append,List.length_singleton]at n1 ⊢;omega
     have o3:=o2.on t3
     obtain⟨h4,e4,m4,t4⟩:=kU m3 (by omega) 103 0 0
     have o4:=o3.on t4
     obtain⟨h5',e5,m5,t5⟩:=ih' c (by rw[hac];simp) o (hall c (by simp)) q2 h4 _ x2 m4 (by simp only[List.length_append,List.length_singleton];omega)
     have n2:=gu _ c (Nat.le_refl _) (A++[(⟨103,0,0⟩:bq)]).length
     generalize hB:aF c (A++[(⟨103,0,0⟩:bq)]).length=B at m5 n2
     have o5:=o4.on t5
     obtain⟨h6,e6,m6,t6⟩:=kU m5 (by simp only[List.length_append,List.length_singleton];omega) 104 0 0
     have o6:=o5.on t6
     obtain⟨h7',e7,m7,t7⟩:=Ac (A:=A) (x:=(⟨103,0,0⟩:bq)) (B:=B++[(⟨104,0,0⟩:bq)]) (by simpa using m6) (by simp only[List.length_append,List.length_cons,List.length_nil];omega)
     have o7:=o6.on t7
     obtain⟨h8,e8,m8,t8⟩:=ih' d (by rw[hac];simp) o (hall d (by simp)) q3 h7' _ x3 m7 (by simp only[List.length_append,List.length_cons,List.length_nil];omega)
     obtain⟨h9,e9,m9,t9⟩:=Ac (A:=A++⟨103,((A++(⟨103,0,0⟩:bq)::(B++[(⟨104,0,0⟩:bq)])).length:Nat),0⟩::B) (x:=(⟨104,0,0⟩:bq)) (B:=aF d (A++⟨103,((A++(⟨103,0,0⟩:bq)::(B++[(⟨104,0,0⟩:bq)])).length:Nat),0⟩::(B++[(⟨104,0,0⟩:bq)])).length) (by simpa using m8) (by
      have:=gu _ d (Nat.le_refl _) (A++⟨103,((A++(⟨103,0,0⟩:bq)::(B++[(⟨104,0,0⟩:bq)])).length:Nat),0⟩::(B++[(⟨104,0,0⟩:bq)])).length
      simp only[List.length_append,List.length_cons,List.length_nil]at this ⊢
      omega)
     have lb:((A++⟨103,((A++(⟨103,0,0⟩:bq)::(B++[(⟨104,0,0⟩:bq)])).length:Nat),0⟩::B).length:Int)=((A++[(⟨103,0,0⟩:bq)]++B).length:Int):=by simp
     rw[lb]at e9
     refine Jc xJ rfl fun Q hQ=> ?_;unfold rn
     simp only[sim,af,θ,ξ,η,reduceCtorEq,ψ,ω,aa,hv,e2,o2.c,h7,Int.reduceEq,i1,d1,e3,e4,o4.c,i2,d2,e5,e6,e7,o7.c,i3,d3,e8,e9]
     refine hQ _ _ rfl ⟨?_,(((((((t2.trans t3).trans t4).trans t5).trans t6).trans t7).trans t8).trans t9)⟩
     rw[hac]
     have hAl:A.length=l.length+1+(aF a (l.length+1)).length:=by rw[←hA];simp;omega
     have hB':aF c (l.length+1+(aF a (l.length+1)).length+1)=B:=by
      rw[←hB]
      congr 1
      simp only[List.length_append,List.length_singleton,hAl]
     have ea:jV (aF a) (aF c) l.length=A.length+1+B.length+1:=by
      unfold jV
      rw[hB',hAl]
     have hA':∀ X:List bq,A++X=l++(⟨100,0,0⟩:bq)::(aF a (l.length+1)++X):=fun X=>by rw[←hA];simp
     have e103:(A++(⟨103,0,0⟩:bq)::(B++[(⟨104,0,0⟩:bq)])).length=A.length+1+B.length+1:=by simp;omega
     rw[h7]
     simp only[zk,show ¬ ((7:Int)=5) by decide,if_false,if_true,List.map_cons,List.map_nil,ifC,ea,hB']
     rw[e103]at m9
     have e8':(A++⟨103,((A.length+1+B.length+1:Nat):Int),0⟩::(B++[(⟨104,0,0⟩:bq)])).length=A.length+1+B.length+1:=by simp;omega
     rw[e8']at m9
     have fin:l++(⟨100,0,0⟩:bq)::(aF a (l.length+1)++⟨103,((A.length+1+B.length+1:Nat):Int),0⟩::(B++⟨104,((A.length+1+B.length+1+(aF d (A.length+1+B.length+1)).length:Nat):Int),0⟩::aF d (A.length+1+B.length+1)))=
       A++⟨103,((A.length+1+B.length+1:Nat):Int),0⟩::B++⟨104,((A++⟨103,((A.length+1+B.length+1:Nat):Int),0⟩::B++(⟨104,0,0⟩:bq)::aF d (A.length+1+B.length+1)).length:Nat),0⟩::aF d (A.length+1+B.length+1):=by
      rw[List.append_assoc,List.cons_append,hA']
      have:A.length+1+B.length+1+(aF d (A.length+1+B.length+1)).length=(A++⟨103,((A.length+1+B.length+1:Nat):Int),0⟩::B++(⟨104,0,0⟩:bq)::aF d (A.length+1+B.length+1)).length:=by simp;omega
      rw[this]
     rw[fin]
     exact m9
    ·have hL:x.l.length≤100000:=by have:=x.len_size;omega
     refine Jc xJ rfl fun Q hQ=> ?_;unfold rn
     simp only[sim,af,θ,ξ,η,reduceCtorEq,ψ,ω,aa,hv,e2,o2.c,h5,h7,Int.reduceEq,hsl.len,hsl.fits]
     refine fN (fun i V h'=>∃ v5 v10,V=[.ptr b 0 0,.agg [.int .i64 x.op,.int .i64 x.k,.int .i64 x.n,v],.ptr h.n 0 0,.junk,.junk,v5,.int .i64 x.op,v,.int .i64 es.length,.int .i64 (i:Nat),v10,.bool false,.bool false]∧
      MkH b (l++(⟨100,0,0⟩:bq)::jK ((x.l.take i).map aF) (l.length+1)) h'∧MkT b h h'∧Own b h.n [[.int .i64 x.op,.int .i64 x.k,.int .i64 x.n,v]] h') x.l.length ⟨_,_,rfl,by simpa[jK]using m2,t2,o2⟩ ?_ ?_
     ·rintro i V h' hi ⟨v5,v10,rfl,m3,t3,o3⟩ next
      obtain⟨y,hy⟩:∃ y,x.l[i]? =some y:=⟨_,List.getElem?_eq_getElem hi⟩
      obtain⟨q,i1,d1,x1⟩:=hix i y hy
      have hlt:(i:Int)<(es.length:Int):=by rw[hn];omega
      have hw:=w64 (n:=(i:Int)+1) (by omega) (by omega)
      have hsz:=Jb hy
      have hsl':=zE (x.l.take i) (l.length+1)
      obtain⟨c1,c2⟩:=x1.one
      obtain⟨h4,e4,m4,t4⟩:=ih' y (lp i y hy) o (by have:=hall y (lp i y hy);simpa using this) q (h'.push [q]) _ x1 (m3.push [q]) (by simp only[List.length_append,List.length_cons];omega)
      have o4:=(o3.on (MkT.push m3.lt [q])).on t4
      rw[aG oB.eq_1]
      simp only[sim,af,θ,ξ,η,reduceCtorEq,ψ,ω,aa,hlt,i1,d1,c1,c2,e4,hw]
      refine next _ _ ⟨_,_,rfl,?_,(t3.trans (MkT.push m3.lt [q])).trans t4,o4⟩
      rw[kO hy,List.map_append,List.map_cons,List.map_nil,zG]
      have e:l.length+1+(jK ((x.l.take i).map aF) (l.length+1)).length=(l++(⟨100,0,0⟩:bq)::jK ((x.l.take i).map aF) (l.length+1)).length:=by simp;omega
      rw[e]
      simpa using m4
     ·rintro V h' ⟨v5,v10,rfl,m3,t3,o3⟩
      have hlt:¬ ((x.l.length:Int)<(es.length:Int)):=by rw[hn];omega
      rw[List.take_length]at m3
      have hsl':=zE x.l (l.length+1)
      obtain⟨h4,e4,m4,t4⟩:=kU m3 (by simp only[List.length_append,List.length_cons];omega) x.op x.k x.n
      rw[aG oB.eq_1]
      simp only[sim,af,θ,ξ,η,reduceCtorEq,ψ,ω,aa,hlt,o3.c,e4]
      refine hQ _ _ rfl ⟨?_,t3.trans t4⟩
      simpa[zk,h5,h7]using m4
end
theorem MX (l:List bq):∀ r∈l.map de,r.all oo=true:=by
 intro r hr
 obtain⟨x,_,rfl⟩:=List.mem_map.1 hr
 rfl
section
variable {h:AH}
end
def FnB (P:Program) (po:Pol) (g:FuncId) (a nv:Nat) (vm:List Nat) (ss:List RS) (rs:List nS):Prop:=
 ∃ fn c,P.funcs[g]? =some fn∧fn.body=some c∧po.use g=true∧bG P (po.mu g) (po.plan g) fn.ntmps vm c []=some ss∧x9 a fn.ntmps (po.nv g) nv vm=true∧lI P vm fn.results.toList=some rs
section
variable {P:Program} {po:Pol} {nv:Nat} {vm:List Nat} {h:AH}
theorem Vl (pok:POK P po) {g:FuncId} {a:Nat} {ss:List RS} {rs:List nS} {args:List AV} {q:(AV ⊕ AV)×AH} (hf:FnB P po g a nv vm ss rs) (ha:args.length=a)
  (hr:cFR false rs h (aC (aj P po) nv [.ss ss] (args++η (vm.length - args.length) .junk) [] h)=some q):AC P g args h q:=by
 obtain⟨fn,c,h1,h2,h5,h6,h7,h8⟩:=hf
 unfold x9 at h7
 simp only[Bool.and_eq_true,decide_eq_true_eq,List.all_eq_true,List.mem_range,beq_iff_eq,bne_iff_ne,ne_eq]at h7
 obtain⟨⟨a1,a2⟩,a3⟩:=h7
 have get:∀ j s,vm[j]? =some s→j<vm.length∧vm.getD j 0=s:=fun j s hj=>⟨(List.getElem?_eq_some_iff.1 hj).1,by simp[List.getD,hj]⟩
 have hnd:vm.Nodup:=by
  rw[List.nodup_iff_pairwise_ne,List.pairwise_iff_getElem]
  intro i j hi hj hij e
  have:=(a3 j hj).2 i hij
  apply this
  simp[List.getD,hi,hj,e]
 have hcl:∀ j s,vm[j]? =some s→(j<nv↔s<po.nv g):=by
  intro j s hj
  obtain⟨g1,g2⟩:=get j s hj
  have:=(a3 j g1).1.1.2
  rw[g2]at this
  exact decide_eq_decide.1 this
 have rv:RV fn.ntmps vm [] (args++η (fn.ntmps - args.length) .junk) (args++η (vm.length - args.length) .junk) []:=by
  refine⟨by simp;omega,by simp;omega,rfl,fun j s hj=> ?_,fun j s hj=>by simp at hj⟩
  obtain⟨g1,g2⟩:=get j s hj
  obtain⟨⟨⟨b1,_⟩,b2⟩,_⟩:=a3 j g1
  rw[g2]at b1 b2
  refine⟨b1,?_⟩
  by_cases hc:j<a∨s<a
  ·rw[if_pos hc]at b2
   have:s=j:=by simpa using b2
   subst this
   have hlt:s<args.length:=by omega
   simp[List.getD,List.getElem?_append_left hlt]
  ·have c1:¬ j<args.length:=by omega
   have c2:¬ s<args.length:=by omega
   simp only[List.getD,List.getElem?_append_right (Nat.not_lt.1 c1),List.getElem?_append_right (Nat.not_lt.1 c2),List.getElem?_replicate]
   split<;>split<;>rfl
 generalize hrun:aC (aj P po) nv [.ss ss] (args++η (vm.length - args.length) .junk) [] h=x at hr
 cases x with
 | none=>cases hr
 | some r=>
   have hm:=(rX (n:=fn.ntmps) (f:=g) hnd hcl _ _ _ _ _ hrun).1 [.code c] _ (.ss [c] ss [] [] (by simp[trL,h6]) .nil) rv
   obtain⟨t',e1,e2⟩:=hm
   have hg:=tJ pok h1 h2 h5 (k9 pok _ _ _ _ _ e1).good
   obtain⟨x,V',h'⟩:=r
   cases x with
   | panic v=>
     have hr:fgA false h (.inr v,h')=some q:=hr
     rw[ng]at hr
     injection hr with hr
     subst hr
     exact hg _ rfl
   | halt K=>cases hr
   | ret=>
     rw[lK]at hr
     cases hv:(fS V' h' rs).map gh with
     | none=>rw[hv]at hr;cases hr
     | some v=>
       rw[hv,kX,ng]at hr
       injection hr with hr
       subst hr
       refine hg _ ?_
       have:=i8 (h:=h') e2 h8
       simp only[Ma,qi,this,hv,Option.map_some]
end
mutual
def zz:Nat→AH→AV→Option (AV×AH)
 | 0,_,_=>none
 | N+1,h,.msl b o n e=>if o=0 then(h.cell b).bind fun rows=>if n≤rows.length∧n≠0 then(xG N (h.set b none) (rows.take n)).map fun q=>(.isl none e q.1,q.2)else none else none
 | N+1,h,.agg cs=>(xq N h cs).map fun q=>(.agg q.1,q.2)
 | N+1,h,.tup cs=>(xq N h cs).map fun q=>(.tup q.1,q.2)
 | _+1,h,v=>some (v,h)
def xq:Nat→AH→List AV→Option (List AV×AH)
 | 0,_,_=>none
 | _+1,h,[]=>some ([],h)
 | N+1,h,v::l=>(zz N h v).bind fun q=>(xq N q.2 l).map fun r=>(q.1::r.1,r.2)
def xG:Nat→AH→List (List AV)→Option (List (List AV)×AH)
 | 0,_,_=>none
 | _+1,h,[]=>some ([],h)
 | N+1,h,v::l=>(xq N h v).bind fun q=>(xG N q.2 l).map fun r=>(q.1::r.1,r.2)
end
section
variable {P:Program} {m:Mm} {h:AH} {w:World}
theorem WR.still (hw:WR P m h w) {b:Nat} {es:List (List AV)} {cs:Array Value} (hb:h.cell b=some es) (hc:Blk w (m.blk b) (m.bt b) cs):
  ∃ m',Ext m h m' (h.set b none)∧WR P m' (h.set b none) w∧(∀ o v,cs[o]? =some v→m'.imm (m.blk b) o=some v)∧m'.blk=m.blk∧m'.bt=m.bt:=by
 have hx:Ext m h {m with imm:=fun g o=>if g=m.blk b then cs[o]? else m.imm g o} (h.set b none):=by
  refine⟨rfl,Nat.le_refl _,Nat.le_refl _,fun _ _=>⟨rfl,rfl,rfl⟩,fun g o v hi=> ?_,fun _ _=>⟨rfl,Nat.le_refl _,fun _=>⟨rfl,rfl⟩⟩,fun _ _ h=>h⟩
  show(if g=m.blk b then cs[o]? else m.imm g o)=some v
  by_cases e:g=m.blk b
  ·rw[e,hw.sep b es hb o]at hi
   cases hi
  ·rw[if_neg e]
   exact hi
 refine⟨_,hx,?_,fun o v hv=>by simp[hv],rfl,rfl⟩
 have up:∀ q x,(h.set b none).cell q=some x→q≠b∧h.cell q=some x:=by
  intro q x hq
  by_cases e:q=b
  ·subst e
   simp[AH.set]at hq
  ·exact⟨e,by simpa[AH.set,e]using hq⟩
 refine⟨hw.size,fun q x hq=>hw.lt q x (up q x hq).2,fun q x hq=> ?_,fun q q' x x' hq hq'=>hw.inj q q' x x' (up q x hq).2 (up q' x' hq').2,fun g o v hi=> ?_,fun q x hq o=> ?_,hw.tip,fun k hk o ho=> ?_,fun k hk q x hq=>hw.tblk k hk q x (up q x hq).2,hw.tinj,hw.good,fun g x hj=> ?_⟩
 ·obtain⟨ds,c1,c2,c3,c4,c5⟩:=hw.live q x (up q x hq).2
  refine⟨ds,c1,c2,c3,c4,fun i hi j hj=> ?_⟩
  obtain⟨v,v1,v2⟩:=c5 i hi j hj
  exact⟨v,v1,v2.ext hx⟩
 ·have hi:(if g=m.blk b then cs[o]? else m.imm g o)=some v:=hi
  by_cases e:g=m.blk b
  ·rw[if_pos e]at hi
   rw[e,hc.cell]
   exact hi
  ·rw[if_neg e]at hi
   exact hw.imm g o v hi
 ·obtain⟨hne,hq⟩:=up q x hq
  show(if m.blk q=m.blk b then cs[o]? else m.imm (m.blk q) o)=none
  rw[if_neg fun e=>hne (hw.inj q b x es hq hb e)]
  exact hw.sep q x hq o
 ·show(if m.tg k=m.blk b then cs[o]? else m.imm (m.tg k) o)=none
  rw[if_neg fun e=>hw.tblk k hk b es hb e.symm]
  exact hw.tfree k hk o ho
 ·obtain⟨a1,a2,a3,a4,a5⟩:=hw.jk g x hj
  refine⟨a1,a2,fun q y hq=>a3 q y (up q y hq).2,a4,fun o=> ?_⟩
  show(if g=m.blk b then cs[o]? else m.imm g o)=none
  rw[if_neg fun e=>a3 b es hb e.symm]
  exact a5 o
theorem Ax:∀ N:Nat,
  (∀ (m:Mm) (h:AH) (w:World) (v:AV) (u:Value) (v':AV) (h2:AH),WR P m h w→VR P m h v u→zz N h v=some (v',h2)→∃ m2,Ext m h m2 h2∧WR P m2 h2 w∧VR P m2 h2 v' u)∧
  (∀ (m:Mm) (h:AH) (w:World) (l:List AV) (F:Nat→Value) (q:List AV) (h2:AH),WR P m h w→(∀ j (hj:j<l.length),VR P m h l[j] (F j))→xq N h l=some (q,h2)→
   ∃ m2,Ext m h m2 h2∧WR P m2 h2 w∧q.length=l.length∧∀ j (hj:j<q.length),VR P m2 h2 q[j] (F j))∧
  (∀ (m:Mm) (h:AH) (w:World) (l:List (List AV)) (F:Nat→Nat→Value) (q:List (List AV)) (h2:AH),WR P m h w→(∀ i (hi:i<l.length) j (hj:j<l[i].length),VR P m h l[i][j] (F i j))→xG N h l=some (q,h2)→
   ∃ m2,Ext m h m2 h2∧WR P m2 h2 w∧q.length=l.length∧(∀ i (hi:i<q.length) (hi':i<l.length),q[i].length=l[i].length)∧∀ i (hi:i<q.length) j (hj:j<q[i].length),VR P m2 h2 q[i][j] (F i j)):=by
 intro N
 induction N with
 | zero=>exact⟨fun _ _ _ _ _ _ _ _ _ e=>by simp[zz]at e,fun _ _ _ _ _ _ _ _ _ e=>by simp[xq]at e,fun _ _ _ _ _ _ _ _ _ e=>by simp[xG]at e⟩
 | succ N ih=>
   obtain⟨ihA,ihL,ihR⟩:=ih
   refine⟨?_,?_,?_⟩
   ·intro m h w v u v' h2 hw hv e
    have same:zz (N+1) h v=some (v,h)→∃ m2,Ext m h m2 h2∧WR P m2 h2 w∧VR P m2 h2 v' u:=by
     intro e2
     rw[e2]at e
     simp only[Option.some.injEq,Prod.mk.injEq]at e
     obtain⟨rfl,rfl⟩:=e
     exact⟨m,Ext.refl _ _,hw,hv⟩
    cases hv with
    | msl b o n t cap hb he hcap hn hmx=>
      simp only[zz]at e
      split at e
      ·rename_i ho
       subst ho
       obtain⟨rows,hrs,e⟩:=Option.bind_eq_some_iff.1 e
       split at e
       ·rename_i hnl
        obtain⟨⟨q,h3⟩,hq,e⟩:=Option.map_eq_some_iff.1 e
        simp only[Prod.mk.injEq]at e
        obtain⟨rfl,rfl⟩:=e
        obtain⟨cs,c1,c2,c3,c4,c5⟩:=hw.live b rows hrs
        obtain⟨m1,x1,w1,i1,b1,t1⟩:=hw.still hrs c1
        have hl:(rows.take n).length=n:=by rw[List.length_take];omega
        obtain⟨m2,x2,w2,l2,r2,v2⟩:=ihR m1 (h.set b none) w (rows.take n) (fun i j=>cs.getD (i*P.cellsOf (m.bt b)+j) undef) q h3 w1 (fun i hi j hj=>by
         rw[hl]at hi
         have hi':i<rows.length:=by omega
         simp only[List.getElem_take]at hj ⊢
         obtain⟨v,k1,k2⟩:=c5 i hi' j hj
         have:cs.getD (i*P.cellsOf (m.bt b)+j) undef=v:=by simp[Array.getD_eq_getD_getElem?,k1]
         rw[this]
         exact k2.ext x1) hq
        refine⟨m2,x1.trans x2,w2,?_⟩
        have hql:q.length=n:=by rw[l2,hl]
        have hrow:∀ i (hi:i<q.length),q[i].length=P.cellsOf t:=by
         intro i hi
         rw[r2 i hi (by omega),List.getElem_take,←he]
         exact c3 _ (List.getElem_mem _)
        have key:=VR.isl (P:=P) (m:=m2) (h:=h3) none t q (m.blk b) 0 cap (fun i j=>cs.getD (i*P.cellsOf (m.bt b)+j) undef) (fun r hr=>by
         obtain⟨i,hi,rfl⟩:=List.getElem_of_mem hr
         exact hrow i hi) (fun i hi j hj=>by
         have hi':i<rows.length:=by omega
         have hj':j<rows[i].length:=by rw[c3 _ (List.getElem_mem _),he];exact hj
         obtain⟨v,k1,k2⟩:=c5 i hi' j hj'
         have e1:cs.getD (i*P.cellsOf (m.bt b)+j) undef=v:=by simp[Array.getD_eq_getD_getElem?,k1]
         show m2.imm (m.blk b) (0+(i*P.cellsOf t+j))=some (cs.getD (i*P.cellsOf (m.bt b)+j) undef)
         rw[e1,Nat.zero_add,←he]
         exact x2.imm _ _ _ (i1 _ _ k1)) v2 (by omega) (fun k hk=>by cases hk)
        rw[hql]at key
        simpa using key
       ·cases e
      ·cases e
    | agg l l' h1 h3=>
      simp only[zz]at e
      obtain⟨⟨q,h4⟩,hq,e⟩:=Option.map_eq_some_iff.1 e
      simp only[Prod.mk.injEq]at e
      obtain⟨rfl,rfl⟩:=e
      obtain⟨m2,x2,w2,l2,v2⟩:=ihL m h w l (fun j=>l'.getD j undef) q h4 hw (fun j hj=>by
       have hj':j<l'.length:=by omega
       have:=h3 j hj hj'
       simpa[List.getD,hj']using this) hq
      exact⟨m2,x2,w2,.agg q l' (by omega) fun j hj hj'=>by
       have:=v2 j hj
       simpa[List.getD,hj']using this⟩
    | tup l l' h1 h3=>
      simp only[zz]at e
      obtain⟨⟨q,h4⟩,hq,e⟩:=Option.map_eq_some_iff.1 e
      simp only[Prod.mk.injEq]at e
      obtain⟨rfl,rfl⟩:=e
      obtain⟨m2,x2,w2,l2,v2⟩:=ihL m h w l (fun j=>l'.getD j undef) q h4 hw (fun j hj=>by
       have hj':j<l'.length:=by omega
       have:=h3 j hj hj'
       simpa[List.getD,hj']using this) hq
      exact⟨m2,x2,w2,.tup q l' (by omega) fun j hj hj'=>by
       have:=v2 j hj
       simpa[List.getD,hj']using this⟩
    | _=>exact same rfl
   ·intro m h w l F q h2 hw hv e
    cases l with
    | nil=>
      simp only[xq,Option.some.injEq,Prod.mk.injEq]at e
      obtain⟨rfl,rfl⟩:=e
      exact⟨m,Ext.refl _ _,hw,rfl,fun j hj=>by simp at hj⟩
    | cons v l=>
      simp only[xq]at e
      obtain⟨⟨v1,h3⟩,e1,e⟩:=Option.bind_eq_some_iff.1 e
      obtain⟨⟨q2,h4⟩,e2,e⟩:=Option.map_eq_some_iff.1 e
      simp only[Prod.mk.injEq]at e
      obtain⟨rfl,rfl⟩:=e
      obtain⟨m1,x1,w1,r1⟩:=ihA m h w v (F 0) v1 h3 hw (hv 0 (by simp)) e1
      obtain⟨m2,x2,w2,l2,r2⟩:=ihL m1 h3 w l (fun j=>F (j+1)) q2 h4 w1 (fun j hj=>(hv (j+1) (by simpa using hj)).ext x1) e2
      refine⟨m2,x1.trans x2,w2,by simp[l2],fun j hj=> ?_⟩
      cases j with
      | zero=>exact r1.ext x2
      | succ j=>exact r2 j (by simpa using hj)
   ·intro m h w l F q h2 hw hv e
    cases l with
    | nil=>
      simp only[xG,Option.some.injEq,Prod.mk.injEq]at e
      obtain⟨rfl,rfl⟩:=e
      exact⟨m,Ext.refl _ _,hw,rfl,fun i hi=>by simp at hi,fun i hi=>by simp at hi⟩
    | cons v l=>
      simp only[xG]at e
      obtain⟨⟨v1,h3⟩,e1,e⟩:=Option.bind_eq_some_iff.1 e
      obtain⟨⟨q2,h4⟩,e2,e⟩:=Option.map_eq_some_iff.1 e
      simp only[Prod.mk.injEq]at e
      obtain⟨rfl,rfl⟩:=e
      obtain⟨m1,x1,w1,k1,r1⟩:=ihL m h w v (F 0) v1 h3 hw (hv 0 (by simp)) e1
      obtain⟨m2,x2,w2,l2,k2,r2⟩:=ihR m1 h3 w l (fun i=>F (i+1)) q2 h4 w1 (fun i hi j hj=>(hv (i+1) (by simpa using hi) j hj).ext x1) e2
      refine⟨m2,x1.trans x2,w2,by simp[l2],fun i hi hi'=> ?_,fun i hi j hj=> ?_⟩
      ·cases i with
       | zero=>exact k1
       | succ i=>exact k2 i (by simpa using hi) (by simpa using hi')
      ·cases i with
       | zero=>exact(r1 j hj).ext x2
       | succ i=>exact r2 i (by simpa using hi) j hj
end
def eG (x:XD):List bq:=aF x 0++[⟨105,0,0⟩]
structure aad (h0 h:AH) (v:AV) (rows:List (List AV)) (L:List XD):Prop where
 acc:Acc h0 h tIs v rows
 g:ab h0 h
 len:rows.length=L.length
 ix:∀ (i:Nat) (x:XD),L[i]? =some x→∃ q,rows[i]? =some [.msl q 0 (eG x).length tI]∧h0.n≤q∧q<h.n∧h.cell q=some ((eG x).map de)∧∀ j q' m,j<i→rows[j]? =some [.msl q' 0 m tI]→q'≠q
theorem MkT.grew {b:Nat} {h0 h h':AH} (g:ab h0 h) (hb:h0.n≤b) (hc:∀ k,k<h0.n→∀ m,h.cell b≠some [[.msl k 0 m tI]]) (x:MkT b h h'):ab h0 h':=
 ⟨Nat.le_trans g.n x.n,Nat.le_trans g.ids x.ids,fun k hk=>(x.old k (Nat.lt_of_lt_of_le hk g.n) (by omega) (hc k hk)).trans (g.cell k hk),fun k hk=>(x.hw k (Nat.lt_of_lt_of_le hk g.ids)).trans (g.hw k hk)⟩
theorem Acc.on {h0 h h':AH} {e:TypeId} {v:AV} {acc:List (List AV)} (a:Acc h0 h e v acc) (h1:h.ids≤h'.ids) (h2:∀ k,k<h.ids→h'.hw k=h.hw k):Acc h0 h' e v acc:=by
 rcases a with a | ⟨id,a0,a1,a2,a3,a4⟩
 ·exact .inl a
 ·exact .inr ⟨id,a0,a1,Nat.lt_of_lt_of_le a2 h1,(h2 id a2).trans a3,a4⟩
theorem Ao {nf:Int}:∀ {L:List XD} {i:Nat},(iz nf i L).1=0→iz nf i L=(0,0)∧∀ x∈L,iw nf x=0
 | [],i,_=>⟨rfl,by simp⟩
 | x::L,i,h=>by
   rw[nX]at h ⊢
   by_cases hf:iw nf x=0
   ·rw[if_neg (by simp[hf])]at h ⊢
    obtain⟨a,b⟩:=Ao h
    refine⟨a,fun y hy=> ?_⟩
    rcases List.mem_cons.1 hy with e | hy
    ·rw[e]
     exact hf
    ·exact b y hy
   ·rw[if_pos hf]at h
    exact absurd h hf
theorem yx {L:List XD} (h:(aU L).1=0):aU L=(0,0)∧L.length≤6∧∀ x∈L,x.fault L.length 0=0∧x.size≤120:=by
 unfold aU at h ⊢
 split at h
 ·cases h
 ·rename_i hl
  rw[if_neg hl]
  obtain⟨a,b⟩:=Ao h
  refine⟨a,by omega,fun x hx=> ?_⟩
  have:=b x hx
  unfold iw at this
  split at this
  ·cases this
  ·split at this
   ·cases this
   ·exact⟨this,by omega⟩
theorem Tg {L:List XD} (h:(aU L).1=0):L≠[]:=by
 rintro rfl
 simp[aU]at h
section
variable {P:Program}
theorem AC.freezeI {g:FuncId} {args:List AV} {id:Option Nat} {e:TypeId} {es es':List (List AV)} {v2:AV} {h h' h2:AH} {N:Nat} (hac:AC P g args h (.inl (.tup [.isl id e es,v2]),h')) (hf:xG N h' es=some (es',h2)):AC P g args h (.inl (.tup [.isl none e es',v2]),h2):=by
 intro m w vs hw hvs
 refine(hac m w vs hw hvs).mono fun e0 w' ⟨m',x1,x2,x3,u,he,hu⟩=> ?_
 simp only at x1 x2 hu
 cases hu with
 | tup _ l' q1 q2=>
   obtain⟨u1,u2,rfl⟩:∃ u1 u2,l'=[u1,u2]:=by
    match l',q1 with
    | [a,b],_=>exact⟨a,b,rfl⟩
   have v1:=q2 0 (by simp) (by simp)
   have v2':=q2 1 (by simp) (by simp)
   simp only[List.getElem_cons_zero,List.getElem_cons_succ]at v1 v2'
   have key:∃ m2,Ext m' h' m2 h2∧WR P m2 h2 w'∧VR P m2 h2 (.isl none e es') u1:=by
    cases v1 with
    | isl _ _ _ g o cap F hl hi hv hc ht=>
      obtain⟨m2,y1,y2,y3,y4,y5⟩:=(Ax N).2.2 m' h' w' es F es' h2 x2 hv hf
      refine⟨m2,y1,y2,?_⟩
      have hrow:∀ i (hi:i<es'.length),es'[i].length=P.cellsOf e:=fun i hi=>by
       rw[y4 i hi (by omega)]
       exact hl _ (List.getElem_mem _)
      have key:=VR.isl (P:=P) (m:=m2) (h:=h2) none e es' g o cap F (fun r hr=>by
       obtain⟨i,hi,rfl⟩:=List.getElem_of_mem hr
       exact hrow i hi) (fun i hi' j hj=>y1.imm _ _ _ (hi i (by omega) j hj)) y5 (by omega) (fun k hk=>by cases hk)
      rwa [y3]at key
    | isl0 _ a cap=>
      obtain⟨m2,y1,y2,y3,y4,y5⟩:=(Ax N).2.2 m' h' w' [] (fun _ _=>undef) es' h2 x2 (fun i hi=>by simp at hi) hf
      have:es'=[]:=List.length_eq_zero_iff.1 (by simpa using y3)
      subst this
      exact⟨m2,y1,y2,.isl0 e a cap⟩
   obtain⟨m2,y1,y2,y3⟩:=key
   refine⟨m2,x1.trans y1,y2,x3,_,he,?_⟩
   exact .tup _ _ rfl fun j hj hj'=>by
    match j,hj with
    | 0,_=>exact y3
    | 1,_=>exact v2'.ext y1
end
theorem PQ:FnB Tryz.prog po 40 1 13 [0,1,2,3,4,5,7,8,13,16,17,18,19] rR [(.v 2),(.cell true 2 3)]:=⟨_,_,Tryz.func40,rfl,by kernel_rfl,by kernel_rfl,by kernel_rfl,by kernel_rfl⟩
theorem Uf:∀ (N:Nat),(∀ (x y:XD) (r:List AV),SizeOf.sizeOf x≤N→ExA x r→ExA y r→x=y)∧(∀ (l l':List XD) (es:List (List AV)),SizeOf.sizeOf l≤N→ExL l es→ExL l' es→l=l'):=by
 intro N
 induction N with
 | zero=>exact⟨fun x _ _ hx=>by have:=x.so_pos;omega,fun l _ _ hl=>by cases l<;>simp at hl⟩
 | succ N ih=>
   refine⟨fun x y r hx h1 h2=> ?_,fun l l' es hl h1 h2=> ?_⟩
   ·cases x with
    | mk op k n l=>
      cases y with
      | mk op' k' n' l'=>
        obtain⟨v,es,e1,s1,q1⟩:=h1
        obtain⟨v',es',e2,s2,q2⟩:=h2
        rw[e1]at e2
        simp only[List.cons.injEq,AV.int.injEq,true_and,and_true]at e2
        obtain⟨rfl,rfl,rfl,rfl⟩:=e2
        have:es=es':=by
         rcases s1 with⟨rfl,rfl⟩ | ⟨i,rfl⟩<;>rcases s2 with⟨rfl,e⟩ | ⟨j,e⟩
         ·rfl
         ·cases e
         ·cases e
         ·injection e
        subst this
        simp only[XD.mk.sizeOf_spec]at hx
        rw[ih.2 l l' es (by omega) q1 q2]
   ·cases l with
    | nil=>
      simp only[ExL]at h1
      subst h1
      cases l' with
      | nil=>rfl
      | cons y l'=>obtain⟨_,_,e,_⟩:=h2;cases e
    | cons x l=>
      obtain⟨r,rs,rfl,a1,a2⟩:=h1
      cases l' with
      | nil=>simp only[ExL]at h2;cases h2
      | cons y l'=>
        obtain⟨r',rs',e,b1,b2⟩:=h2
        injection e with e1 e2
        subst e1;subst e2
        simp only[List.cons.sizeOf_spec]at hl
        rw[ih.1 x y r (by omega) a1 b1,ih.2 l l' rs (by omega) a2 b2]
section
variable {h:AH}
theorem zT:∀ (rows:List (List AV)) (L:List XD) (h:AH) (N:Nat),rows.length=L.length→5*L.length+3000≤N→
  (∀ (i:Nat) (x:XD),L[i]? =some x→∃ q,rows[i]? =some [.msl q 0 (eG x).length tI]∧h.cell q=some ((eG x).map de)∧(eG x).length≤1000∧∀ j q' m,j<i→rows[j]? =some [.msl q' 0 m tI]→q'≠q)→
  ∃ h2,xG N h rows=some (L.map fun x=>[.isl none tI ((eG x).map de)],h2)∧h2.n=h.n∧h2.ids=h.ids∧h2.hw=h.hw∧∀ k,(∀ (i m:Nat),rows[i]?≠some [AV.msl k 0 m tI])→h2.cell k=h.cell k
 | [],L,h,N,hl,hN,_=>by
   have:L=[]:=List.length_eq_zero_iff.1 (by simpa using hl.symm)
   subst this
   obtain⟨N,rfl⟩:∃ N',N=N'+1:=⟨N - 1,by omega⟩
   exact⟨h,rfl,rfl,rfl,rfl,fun _ _=>rfl⟩
 | r::rows,[],h,N,hl,hN,_=>by simp at hl
 | r::rows,x::L,h,N,hl,hN,hx=>by
   obtain⟨N,rfl⟩:∃ N',N=N'+3:=⟨N - 3,by omega⟩
   obtain⟨q,e0,c0,l0,_⟩:=hx 0 x rfl
   simp only[List.getElem?_cons_zero,Option.some.injEq]at e0
   subst e0
   have ne:(eG x).length≠0:=by simp[eG]
   have flat:∀ (l:List bq) (M:Nat) (g:AH),5+l.length≤M→xG M g (l.map de)=some (l.map de,g):=by
    intro l
    induction l with
    | nil=>intro M g hM;obtain⟨M,rfl⟩:∃ N',M=N'+1:=⟨M - 1,by omega⟩;rfl
    | cons y l ih=>
      intro M g hM
      simp only[List.length_cons]at hM
      obtain⟨M,rfl⟩:∃ N',M=N'+5:=⟨M - 5,by omega⟩
      have:=ih (M+4) g (by omega)
      simp only[List.map_cons,xG,xq,zz,Option.bind_some,Option.map_some,this]
   have htk:((eG x).map de).take (eG x).length=(eG x).map de:=List.take_of_length_le (by simp)
   have hA:zz (N+1) h (.msl q 0 (eG x).length tI)=some (.isl none tI ((eG x).map de),h.set q none):=by
    simp only[zz,if_true,c0,Option.bind_some,List.length_map]
    rw[if_pos ⟨Nat.le_refl _,ne⟩,htk,flat (eG x) N _ (by simp only[List.length_cons]at hN;omega)]
    rfl
   obtain⟨h2,f1,f2,f3,f4,f5⟩:=zT rows L (h.set q none) (N+2) (by simpa using hl) (by simp only[List.length_cons]at hN;omega) fun i y hy=>by
    obtain⟨q2,e2,c2,l2,d2⟩:=hx (i+1) y (by simpa using hy)
    refine⟨q2,by simpa using e2,?_,l2,fun j q' m hj hq=>d2 (j+1) q' m (by omega) (by simpa using hq)⟩
    rw[bu (Ne.symm (d2 0 q _ (by omega) rfl))]
    exact c2
   refine⟨h2,?_,f2,f3,f4,fun k hk=> ?_⟩
   ·have hL1:xq (N+2) h [.msl q 0 (eG x).length tI]=some ([.isl none tI ((eG x).map de)],h.set q none):=by
     simp only[xq,hA,Option.bind_some,Option.map_some]
    simp only[xG,hL1,Option.bind_some,f1,Option.map_some,List.map_cons]
   ·rw[f5 k fun i m hm=>hk (i+1) m (by simpa using hm),bu fun e=>hk 0 (eG x).length (by rw[e];rfl)]
def vK (h:AH) (L:List XD) (r0:AV) (h':AH):Prop:=if(aU L).1=0 then ∃ rows,(∃ id,r0= .isl id tIs rows)∧rows.length=L.length∧∀ (i:Nat) (x:XD),L[i]? =some x→∃ q,rows[i]? =some [.msl q 0 (eG x).length tI]∧h.n≤q∧h'.cell q=some ((eG x).map de)∧∀ (j q' m:Nat),j<i→rows[j]? =some [.msl q' 0 m tI]→q'≠q else r0= .nils
set_option maxHeartbeats 1000000 in
theorem Jd (v:AV) (L:List XD) (m:∀ h,gk h v L) (hL:L.length≤100000) (hs:∀ x∈L,x.size≤100000):
  ∃ V' h' r0,aC (aj Tryz.prog po) 13 [.ss rR] ([.agg [v]]++η ([0,1,2,3,4,5,7,8,13,16,17,18,19].length - [AV.agg [v]].length) .junk) [] h=some (.ret,V',h')∧(fS V' h' [(.v 2),(.cell true 2 3)]).map gh=some (.tup [r0,.agg [.int .i64 (aU L).1,.int .i64 (aU L).2]])∧ab h h'∧vK h L r0 h':=by
 suffices key:∀ Q:jN→Prop,(∀ V' h' r0,(fS V' h' [(.v 2),(.cell true 2 3)]).map gh=some (.tup [r0,.agg [.int .i64 (aU L).1,.int .i64 (aU L).2]])→ab h h'→vK h L r0 h'→Q (some (.ret,V',h')))→
   Q (aC (aj Tryz.prog po) 13 [.ss rR] ([.agg [v]]++η ([0,1,2,3,4,5,7,8,13,16,17,18,19].length - [AV.agg [v]].length) .junk) [] h) from
  key (fun x=>∃ V' h' r0,x=some (.ret,V',h')∧(fS V' h' [(.v 2),(.cell true 2 3)]).map gh=some (.tup [r0,.agg [.int .i64 (aU L).1,.int .i64 (aU L).2]])∧ab h h'∧vK h L r0 h') fun V' h' r0 a b c=>⟨V',h',r0,rfl,a,b,c⟩
 intro Q hQ
 have o1:=(m h).one
 have l1:=(m h).len
 have f1:=(m h).fits
 have ck:=fun h=>MV (h:=h) v L (m h) hL hs
 unfold rR
 by_cases h0:(aU L).1=0
 ·obtain⟨e,hl6,hx⟩:=yx h0
  have hne:=Tg h0
  rw[e]at ck hQ
  unfold vK at hQ
  rw[e]at hQ
  simp only[if_true]at hQ
  simp only[sim,af,θ,ξ,η,reduceCtorEq,ψ,ω,aa,o1,l1,f1,ck,eq_self]
  refine fN (fun i V h'=>∃ v5 v6 v7 v12 rows,V=[.agg [v],.ptr h.n 0 0,.nils,.ptr (h.n+1) 0 0,.ptr (h.n+1+1) 0 0,v5,v6,v7,.bool false,v,.int .i64 L.length,.int .i64 (i:Nat),v12]∧
   aad h h' v5 rows (L.take i)∧h.n+1<h'.n∧h'.cell (h.n+1)=some [[.int .i64 0,.int .i64 0]]) L.length ⟨_,_,_,_,[],rfl,⟨iI _ _ _,(by repeat (first | exact ab.refl _ | refine ab.trans ?_ (ab.push _ _) | refine ab.trans ?_ (ab.fresh _ _))),by simp,fun i x hx=>by simp at hx⟩,by simp only[bd,fI];omega,?_⟩ ?_ ?_
  ·simp only[sim,bv,X3,Cf]
  ·rintro i V h' hi ⟨v5,v6,v7,v12,rows,rfl,ou,hn,c1⟩ next
   obtain⟨y,hy⟩:∃ y,L[i]? =some y:=⟨_,List.getElem?_eq_getElem hi⟩
   have hym:y∈L:=List.mem_of_getElem? hy
   obtain⟨fy,sy⟩:=hx y hym
   obtain⟨a,q,i1,i2,i3⟩:=(m h').ix i y hy
   have i2':=i2 _ (ab.refl h')
   obtain⟨p1,p2⟩:=i3.one
   have hlt:(i:Int)<(L.length:Int):=by omega
   have hw:=w64 (n:=(i:Int)+1) (by omega) (by omega)
   have m0:MkH (h'.n+1) [] ((h'.push [q]).push [[.nils]]):=⟨by simp[AH.push],.nils,aq,.inl ⟨rfl,rfl⟩⟩
   have nc:∀ k m,((h'.push [q]).push [[.nils]]).cell (h'.n+1)≠some [[.msl k 0 m tI]]:=fun k m e=>by
    rw[aq]at e
    simp at e
   obtain⟨h4,e4,m4,t4⟩:=L6 L.length _ y (Nat.le_refl _) 0 fy q _ _ _ i3 m0 (by simp only[List.length_nil];omega)
   have lc:=gu _ y (Nat.le_refl _) 0
   obtain⟨h5,e5,m5,t5⟩:=kU m4 (by simp only[List.length_append,List.length_nil];omega) 105 0 0
   have t:=t4.trans t5
   have ef:([]:List bq)++aF y ([]:List bq).length++[⟨105,0,0⟩]=eG y:=rfl
   rw[ef]at m5
   obtain⟨hb5,w,c5,s5⟩:=m5
   obtain⟨q', -,hq',rfl,cq⟩:∃ q',eG y≠[]∧q'<h5.n∧w= .msl q' 0 (eG y).length tI∧h5.cell q'=some ((eG y).map de):=by
    rcases s5 with⟨e,_⟩ | s5
    ·simp[eG]at e
    ·exact s5
   have hqn:h'.n+2≤q':=by
    rcases Nat.lt_or_ge q' ((h'.push [q]).push [[.nils]]).n with hlt' | hge
    ·obtain⟨m',e'⟩:=t.cur q' hlt' _ c5
     exact absurd e' (nc _ _)
    ·simpa[AH.push]using hge
   have g0:ab h' ((h'.push [q]).push [[.nils]]):=(by repeat (first | exact ab.refl _ | refine ab.trans ?_ (ab.push _ _) | refine ab.trans ?_ (ab.fresh _ _)))
   have g5:ab h' h5:=MkT.grew g0 (by omega) (fun k _ m=>nc k m) t
   have a5:=ou.acc.on g5.ids g5.hw
   have hrl:rows.length≤1000000:=by rw[ou.len,List.length_take];omega
   obtain⟨v5',h6,e6,a6,g6,k6,n6⟩:=lw a5 (ou.g.trans g5) (row:=[.msl q' 0 (eG y).length tI]) rfl hrl
   have c6:h6.cell (h.n+1)=some [[.int .i64 0,.int .i64 0]]:=by rw[k6,g5.cell _ hn];exact c1
   rw[aG oV.eq_1]
   simp only[sim,af,θ,ξ,η,reduceCtorEq,ψ,ω,aa,hlt,i1,i2',p1,p2,e4,e5,c5,e6,hw]
   refine next _ _ ⟨_,_,_,_,_,rfl,⟨a6,g6,?_,fun j x hj=> ?_⟩,by have:=g5.n;omega,c6⟩
   ·rw[kO hy,List.length_append,List.length_append,ou.len];rfl
   ·rw[kO hy]at hj
    by_cases hji:j<(L.take i).length
    ·rw[List.getElem?_append_left hji]at hj
     obtain⟨p,z1,z0,z2,z3,z4⟩:=ou.ix j x hj
     refine⟨p,by rw[List.getElem?_append_left (by rw[ou.len];exact hji)];exact z1,z0,by have:=g5.n;omega,by rw[k6,g5.cell _ z2];exact z3,fun j2 q2 m2 hj2 hr2=>z4 j2 q2 m2 hj2 ?_⟩
     rwa [List.getElem?_append_left (by rw[ou.len];omega)]at hr2
    ·rw[List.getElem?_append_right (by omega)]at hj
     have hj0:j - (L.take i).length=0:=by
      have:=(List.getElem?_eq_some_iff.1 hj).1
      simp at this
      simp
      omega
     rw[hj0]at hj
     obtain rfl:y=x:=by simpa using hj
     refine⟨q',by rw[List.getElem?_append_right (by rw[ou.len];omega),ou.len,hj0];rfl,by have:=ou.g.n;omega,by omega,by rw[k6];exact cq,fun j2 q2 m2 hj2 hr2=> ?_⟩
     have hj3:j2<rows.length:=by rw[ou.len];omega
     rw[List.getElem?_append_left hj3]at hr2
     obtain⟨z,hz⟩:∃ z,(L.take i)[j2]? =some z:=⟨_,List.getElem?_eq_getElem (by rw[←ou.len];exact hj3)⟩
     obtain⟨p,z1,z0,z2,z3,z4⟩:=ou.ix j2 z hz
     rw[z1]at hr2
     simp only[Option.some.injEq,List.cons.injEq,AV.msl.injEq,and_true]at hr2
     omega
  ·rintro V h' ⟨v5,v6,v7,v12,rows,rfl,ou,hn,c1⟩
   have hlt:¬ ((L.length:Int)<(L.length:Int)):=by omega
   rw[List.take_length]at ou
   have hrne:rows≠[]:=fun e=>hne (List.length_eq_zero_iff.1 (by rw[←ou.len,e];rfl))
   rw[aG oV.eq_1]
   simp only[sim,af,θ,ξ,η,reduceCtorEq,ψ,ω,aa,hlt,c1]
   refine hQ _ _ v5 (by simp only[sim,Option.map_some,Option.bind_some,List.set_cons_zero,List.length_cons,List.length_nil]) (ou.g.set (by omega)) ⟨rows,?_,ou.len,fun i x hx=> ?_⟩
   ·rcases ou.acc with⟨e,_⟩ | ⟨id,_,_,_,_,e⟩
    ·exact absurd e hrne
    ·exact⟨_,e⟩
   ·obtain⟨q,z1,z0,z2,z3,z4⟩:=ou.ix i x hx
    have zn:q≠h.n+1:=by
     rintro rfl
     rw[c1]at z3
     unfold eG at z3
     cases hc:aF x 0 with
     | nil=>rw[hc]at z3;simp[de]at z3
     | cons y l=>rw[hc]at z3;simp[de]at z3
    exact⟨q,z1,z0,(bu zn).trans z3,z4⟩
 ·unfold vK at hQ
  simp only[h0,if_false]at hQ
  simp only[sim,af,θ,ξ,η,reduceCtorEq,ψ,ω,aa,o1,l1,f1,ck,h0]
  exact hQ _ _ .nils (by simp only[sim,bv,X3,Cf,Option.map_some,Option.bind_some,List.set_cons_zero,List.length_cons,List.length_nil]) (by refine ab.set ?_ (by omega);exact(by repeat (first | exact ab.refl _ | refine ab.trans ?_ (ab.push _ _) | refine ab.trans ?_ (ab.fresh _ _)))) rfl
theorem MA (L:List XD):wkA (dY L)=some (dY L):=by
 unfold dY
 simp only[wkA]
 have key:∀ L:List XD,wkR (L.map fun x=>[AV.isl none tI ((aF x 0++[(⟨105,0,0⟩:bq)]).map fun i:bq=>[.int .i64 i.op,.int .i64 i.k,.int .i64 i.n])])=some (L.map fun x=>[AV.isl none tI ((aF x 0++[(⟨105,0,0⟩:bq)]).map fun i:bq=>[.int .i64 i.op,.int .i64 i.k,.int .i64 i.n])]):=by
  intro L
  induction L with
  | nil=>rfl
  | cons x L ih=>
    have fl:wkR ((aF x 0++[(⟨105,0,0⟩:bq)]).map fun i:bq=>[AV.int .i64 i.op,.int .i64 i.k,.int .i64 i.n])=some ((aF x 0++[(⟨105,0,0⟩:bq)]).map fun i:bq=>[AV.int .i64 i.op,.int .i64 i.k,.int .i64 i.n]):=kE (MX _)
    simp only[List.map_cons,wkR,wkL,wkA,fl,Option.map_some,ih]
 rw[key L]
 rfl
theorem Px (v:AV) (L:List XD) (m:∀ h,gk h v L) (hL:L.length≤100000) (hs:∀ x∈L,x.size≤100000):AC Tryz.prog 40 [.agg [v]] h (.inl (ul L),h):=by
 obtain⟨V',h',r0,e1,e2,g,e3⟩:=Jd (h:=h) v L m hL hs
 have hac:AC Tryz.prog 40 [.agg [v]] h (.inl (.tup [r0,.agg [.int .i64 (aU L).1,.int .i64 (aU L).2]]),h'):=Vl pok PQ rfl (by rw[e1,lK,e2,kX,ng])
 unfold ul
 by_cases h0:(aU L).1=0
 ·unfold vK at e3
  rw[if_pos h0]at e3 ⊢
  obtain⟨rows,⟨id,rfl⟩,hl,hx⟩:=e3
  obtain⟨_,hl6,hsz⟩:=yx h0
  obtain⟨h2,f1,f2,f3,f4,f5⟩:=zT rows L h' 100000 hl (by omega) fun i x hi=>by
   obtain⟨q,z1,z0,z2,z3⟩:=hx i x hi
   have lc:=gu _ x (Nat.le_refl _) 0
   have:=(hsz x (List.mem_of_getElem? hi)).2
   exact⟨q,z1,z2,by simp only[eG,List.length_append,List.length_singleton];omega,z3⟩
  have a2:=AC.freezeI hac f1
  have gg:ab h h2:=⟨by rw[f2];exact g.n,by rw[f3];exact g.ids,fun k hk=>by
   refine(f5 k fun i m hm=> ?_).trans (g.cell k hk)
   ·obtain⟨x,hi⟩:∃ x,L[i]? =some x:=⟨_,List.getElem?_eq_getElem (by rw[←hl];exact(List.getElem?_eq_some_iff.1 hm).1)⟩
    obtain⟨q,z1,z0,_⟩:=hx i x hi
    rw[z1]at hm
    simp only[Option.some.injEq,List.cons.injEq,AV.msl.injEq,and_true]at hm
    omega,fun k hk=>by rw[f4];exact g.hw k hk⟩
  refine AC.forget (p:=true) a2 (aI gg ?_)
  have:=MA L
  unfold dY eG at*
  simp only[wkA,wkL,Option.map_some]at this ⊢
  rw[this]
  rfl
 ·unfold vK at e3
  rw[if_neg h0]at e3 ⊢
  subst e3
  exact AC.forget (p:=true) hac (aI g rfl)
theorem A0 {v:AV} {es:List (List AV)} {L:List XD} (hv:SlA tE v es) (hl:ExL L es) (m:∀ h,gk h v L) (hL:L.length≤100000) (hs:∀ x∈L,x.size≤100000):aj Tryz.prog po 40 [.agg [v]] h=some (.inl (ul L),h):=by
 have H:∃ L:List XD,(∃ v' es,[AV.agg [v]]=[.agg [v']]∧SlA tE v' es∧ExL L es)∧AC Tryz.prog 40 [.agg [v]] h (.inl (ul L),h):=⟨L,⟨v,es,rfl,hv,hl⟩,Px v L m hL hs⟩
 have hx:po.ext 40=some KN:=by
  show vd 40=_
  unfold vd
  rw[if_neg (by decide),if_neg (by decide),if_pos rfl]
 unfold aj
 rw[hx]
 simp only[KN]
 rw[dif_pos H]
 obtain⟨⟨v',es',e1,s1,q1⟩,_⟩:=Classical.choose_spec H
 have:L=Classical.choose H:=by
  injection e1 with e1
  injection e1 with e1
  injection e1 with e1
  subst e1
  have:es=es':=by
   rcases hv with⟨rfl,rfl⟩ | ⟨i,rfl⟩<;>rcases s1 with⟨rfl,e⟩ | ⟨j,e⟩
   ·rfl
   ·cases e
   ·cases e
   ·injection e
  subst this
  exact(Uf _).2 _ _ _ (Nat.le_refl _) hl q1
 rw[←this]
end
open Go.RowKit
theorem H4:(Tryz.prog.info? 2).map (fun i=>(i.zero,i.size,i.bytes))=some (some (.int .i64 0),1,8):=by kernel_rfl
theorem Ht (A:Option Addr) (n cap:Nat) (xs:List Value) (w:World) (hr:Sl w 1 A n cap xs) (h1:∀ u∈xs,u.oneCell'=true) (hn:n≤1000000):
  Calls Tryz.prog 55 #[.slice A n cap] w fun e w'=>∃ A' cap',e= .returned (.slice A' n cap')∧w'.ownsRow w.heap.size 2 1 (.slice A' n cap') n xs∧New w w':=by
 obtain⟨i0,hi,hz0,hz1,hz2⟩:=info_parts H4
 have hq:∀ (w:World) (a:Option Addr) (l c:Nat),(binOp .eql 60 (.slice a l c) (.slice none 0 0)).run Tryz.prog w= .ok (.bool a.isNone) w:=fun w a l c=>Lib.run_eql_slice_nil w _ _ a l c 0 0 Tryz.underlying60
 rcases A with _ | a
 ·have hc:=hr.2.2.1 rfl
  have hle:=hr.2.1
  obtain rfl:n=0:=by omega
  subst hc
  obtain rfl:xs=[]:=List.eq_nil_of_length_eq_zero (by simpa using hr.1)
  go_enter Tryz.func55,Tryz.ntmps55
  go_wp2
  go_ret
  exact⟨_,_,rfl,World.ownsRow_nil _ _ _ _,eN.refl _ _⟩
 ·have hown0:(w.alloc (.cells #[] 2)).ownsRow w.heap.size 2 1 (.slice (some ⟨w.heap.size,0,none⟩) 0 0) 0 []:=World.ownsRow_lit w #[] 0 (Nat.le_refl _) (by unfold maxLen;omega) (by simp)
  have hr0:Sl (w.alloc (.cells #[] 2)) 1 (some a) n cap xs:=hr.new ((eN.refl _ _).alloc _)
  go_enter Tryz.func55,Tryz.ntmps55
  go_wp2_with (at_builtin;refine wd rfl (.tmp 5) (.tmp 6) 60 rfl w.heap.size 2 i0 _ 1 8 Tryz.underlying60 hi hz0 hz1 hz2 rfl (by decide) _ 0 [] _ rfl hown0 (some a) n cap xs rfl hr0 h1 (by unfold maxLen;omega) (by omega) (by simp) ?_)
  intro v w1 hown1 ho1 hv hform
  have ho:New w w1:=((eN.refl _ w).alloc (.cells #[] 2)).step ho1 (by intro k hk;simp;omega)
  try simp only[Nat.zero_add,List.nil_append]at hown1
  obtain⟨A',cap',rfl⟩:∃ A' cap',v= .slice A' n cap':=by
   rcases hown1.2 with⟨rfl,rfl⟩ | ⟨g,cap',_,rfl,_⟩
   ·exact⟨_,_,rfl⟩
   ·exact⟨_,_,rfl⟩
  clear hform hv
  go_wp2
  go_ret
  exact⟨_,_,rfl,hown1,ho⟩
open Go Go.RowKit
theorem I7 (g o:Nat) (xs:List Value) (w:World) (hr:Sl w 1 (some ⟨g,o,none⟩) 12 12 xs) (h1:∀ u∈xs,u.oneCell'=true):
  Calls Tryz.prog 21 #[.pointer (some ⟨g,o,none⟩)] w fun e w'=>∃ A' cap',e= .returned (.slice A' 12 cap')∧w'.ownsRow w.heap.size 2 1 (.slice A' 12 cap') 12 xs∧New w w':=by
 go_enter Tryz.func21,Tryz.ntmps21
 go_wp2_with (go_at_call 55;refine(Ht _ 12 12 _ _ hr h1 (by omega)).mono ?_;rintro e w' ⟨A',cap',rfl,hown,ho⟩)
 go_ret
 exact⟨_,_,rfl,hown,ho⟩
section
variable {P:Program} {m:Mm} {h:AH} {w w':World}
theorem WR.still_new (hw:WR P m h w) (ho:New w w') {g:Nat} (hg:w.heap.size≤g) {I:Nat→Option Value} (hI:∀ o v,I o=some v→w'.cell? ⟨g,o,none⟩=some v):
  ∃ m',Ext m h m' h∧WR P m' h w'∧∀ o v,I o=some v→m'.imm g o=some v:=by
 have hw1:=hw.new ho
 have hx:Ext m h {m with imm:=fun g' o=>if g'=g then I o else m.imm g' o} h:=by
  refine⟨rfl,Nat.le_refl _,Nat.le_refl _,fun _ _=>⟨rfl,rfl,rfl⟩,fun g' o v hi=> ?_,fun _ _=>⟨rfl,Nat.le_refl _,fun _=>⟨rfl,rfl⟩⟩,fun _ _ h=>h⟩
  have:=hw.imm_lt hi
  show(if g'=g then I o else m.imm g' o)=some v
  rw[if_neg (by omega)]
  exact hi
 refine⟨_,hx,?_,fun o v hi=>by show(if g=g then I o else _)=_;rw[if_pos rfl];exact hi⟩
 refine{hw1 with live:=fun b es hb=> ?_,imm:=fun g' o v hi=> ?_,sep:=fun b es hb o=> ?_,tfree:=fun k hk o ho=> ?_,jk:=fun g' x hj=> ?_}
 ·obtain⟨cs,h1,h2,h3,h4,h5⟩:=hw1.live b es hb
  exact⟨cs,h1,h2,h3,h4,fun i hi j hj=>by
   obtain⟨v,a,c⟩:=h5 i hi j hj
   exact⟨v,a,c.ext hx⟩⟩
 ·have hi:(if g'=g then I o else m.imm g' o)=some v:=hi
  by_cases e:g'=g
  ·rw[if_pos e]at hi
   rw[e]
   exact hI o v hi
  ·rw[if_neg e]at hi
   exact hw1.imm g' o v hi
 ·have:=hw.below hb
  show(if m.blk b=g then I o else m.imm (m.blk b) o)=none
  rw[if_neg (by omega)]
  exact hw1.sep b es hb o
 ·have:=(hw.tip_lt hk).2
  show(if m.tg k=g then I o else m.imm (m.tg k) o)=none
  rw[if_neg (by omega)]
  exact hw1.tfree k hk o ho
 ·obtain⟨a1,a2,a3,a4,a5⟩:=hw1.jk g' x hj
  refine⟨a1,a2,a3,a4,fun o=> ?_⟩
  have:=hw.jk_lt hj
  show(if g'=g then I o else m.imm g' o)=none
  rw[if_neg (by omega)]
  exact a5 o
end
theorem rW:(Tryz.prog).cellsOf 2=1:=by kernel_rfl
theorem Mh {h:AH} {b:Nat} {cs:List Int} {lv:AV} (hc:h.cell b=some [cs.map (.int .i64)++[lv]]) (hl:cs.length=12):
  AC Tryz.prog 21 [.ptr b 0 0] h (.inl (.isl none 2 (cs.map fun x=>[.int .i64 x])),h):=by
 intro m w vs hw hvs
 obtain⟨u,rfl⟩:∃ u,vs=[u]:=by
  match vs,hvs.1 with
  | [u],_=>exact⟨u,rfl⟩
 have v0:=hvs.2 0 (by simp) (by simp)
 simp only[List.getElem_cons_zero]at v0
 obtain⟨cvs,c1,c2,c3,c4,c5⟩:=hw.live b _ hc
 have hxs:Sl w 1 (some ⟨m.blk b,0,none⟩) 12 12 (cs.map (Value.int .i64)):=Sl.of_blk c1 (Nat.le_refl _) (by simp[hl]) fun j u hu=>by
  have hj:j<cs.length:=by
   have:=(List.getElem?_eq_some_iff.1 hu).1
   simpa using this
  have hj2:j<(cs.map (AV.int .i64)++[lv]).length:=by simp;omega
  obtain⟨v,k1,k2⟩:=c5 0 (by simp) j hj2
  have k2:VR Tryz.prog m h ((cs.map (AV.int .i64)++[lv])[j]'hj2) v:=k2
  rw[List.getElem_append_left (by simpa using hj),List.getElem_map]at k2
  cases k2
  simp only[List.getElem?_map,List.getElem?_eq_getElem hj,Option.map_some,Option.some.injEq]at hu
  rw[←hu]
  simpa using k1
 cases v0 with
 | ptr _ _ _ hb=>
   have hcall:=I7 (m.blk b) 0 (cs.map (Value.int .i64)) w hxs (by
    intro u hu
    obtain⟨x,_,rfl⟩:=List.mem_map.1 hu
    rfl)
   have e0:(0*(Tryz.prog).cellsOf (m.bt b)+0)=0:=by omega
   simp only[e0]
   refine hcall.mono ?_
   rintro e w' ⟨A',cap',rfl,hown,ho⟩
   have hsl:=Sl.of_own hown
   obtain⟨g,o,rfl⟩:=hsl.some_ (by omega)
   have hg:w.heap.size≤g:=(hown.lt g rfl).1
   have hI:∀ (p:Nat) (v:Value),(if o≤p then(cs.map (Value.int .i64))[p - o]? else none)=some v→w'.cell? ⟨g,p,none⟩=some v:=by
    intro p v hv
    split at hv
    ·rename_i hop
     have:=hsl.at0 (p:=p - o) hv
     rw[show o+(p - o)=p by omega]at this
     exact this
    ·cases hv
   obtain⟨m',x1,x2,x3⟩:=hw.still_new ho hg (I:=fun p=>if o≤p then(cs.map (Value.int .i64))[p - o]? else none) hI
   refine⟨m',x1,x2,eN.below ho (fun _ h=>h.elim) hw.size,_,rfl,?_⟩
   have key:=VR.isl (P:=Tryz.prog) (m:=m') (h:=h) none 2 (cs.map fun x=>[.int .i64 x]) g o cap' (fun i _=> .int .i64 (cs.getD i 0)) (fun r hr=>by
     obtain⟨x,_,rfl⟩:=List.mem_map.1 hr
     rw[rW];rfl) (fun i hi j hj=>by
     rw[rW]at hj ⊢
     have hj0:j=0:=by omega
     subst hj0
     refine x3 _ _ ?_
     have hi':i<cs.length:=by simpa using hi
     show(if o≤o+(i*1+0)then(cs.map (Value.int .i64))[o+(i*1+0) - o]? else none)=_
     rw[if_pos (by omega),show o+(i*1+0) - o=i by omega]
     simp[hi',List.getD]) (fun i hi j hj=>by
     have hi':i<cs.length:=by simpa using hi
     have hj0:j=0:=by
      simp only[List.getElem_map,List.length_singleton]at hj
      omega
     subst hj0
     have e:(cs.map fun x=>[AV.int .i64 x])[i][0]= .int .i64 (cs.getD i 0):=by simp[List.getD,hi']
     rw[e]
     exact .int _ _) (by rw[List.length_map,hl];exact hsl.2.1) (fun k hk=>by cases hk)
   rw[List.length_map,hl]at key
   exact key
theorem UO {cs cs':List Int} {lv lv':AV} (h1:cs.length=12) (h2:cs'.length=12) (e:cs.map (AV.int .i64)++[lv]=cs'.map (AV.int .i64)++[lv']):cs=cs':=by
 have:=List.append_inj_left e (by simp[h1,h2])
 refine List.ext_getElem? fun i=> ?_
 have h3:=congrArg (·[i]?) this
 simp only[List.getElem?_map]at h3
 cases hx:cs[i]? <;>cases hy:cs'[i]? <;>simp_all
theorem G9 {h:AH} {b:Nat} {cs:List Int} {lv:AV} (hc:h.cell b=some [cs.map (.int .i64)++[lv]]) (hl:cs.length=12):
  aj Tryz.prog po 21 [.ptr b 0 0] h=some (.inl (.isl none 2 (cs.map fun x=>[.int .i64 x])),h):=by
 have H:∃ cs:List Int,(∃ b' lv,[AV.ptr b 0 0]=[.ptr b' 0 0]∧h.cell b'=some [cs.map (.int .i64)++[lv]]∧cs.length=12)∧AC Tryz.prog 21 [.ptr b 0 0] h (.inl (.isl none 2 (cs.map fun x=>[.int .i64 x])),h):=⟨cs,⟨b,lv,rfl,hc,hl⟩,Mh hc hl⟩
 have hx:po.ext 21=some vo:=by
  show vd 21=_
  unfold vd
  rw[if_neg (by decide),if_neg (by decide),if_neg (by decide),if_pos rfl]
 unfold aj
 rw[hx]
 simp only[vo]
 rw[dif_pos H]
 obtain⟨⟨b',lv',e1,e2,e3⟩,_⟩:=Classical.choose_spec H
 have:cs=Classical.choose H:=by
  injection e1 with e1
  injection e1 with e1
  subst e1
  rw[hc]at e2
  injection e2 with e2
  injection e2 with e2
  exact UO hl e3 e2
 rw[←this]
section
variable {h:AH} {F J:Nat→Prop} {b:Nat} {G:ae}
theorem Ym (g:IsG h F J b G) (hW:G.Wf) (c r k:Int):∃ h',aj Tryz.prog po 58 [.ptr b 0 0,.int .i64 c,.int .i64 r,.int .i64 k] h=some (.inl (.tup [.int .i64 (G.cellC c r k).2.1,.int .i64 (G.cellC c r k).2.2]),h')∧cO h F J b h' (G.cellC c r k).1:=by
 unfold ae.cellC
 cases hc:iY c
 ·rw[if_neg (by simp)]
  refine⟨h,?_,cO.same g⟩
  refine ag FQ rfl ?_;unfold yB
  simp only[sim,af,θ,ξ,η,reduceCtorEq,ψ,ω,aa,JO,hc]
 ·rw[if_pos rfl]
  obtain⟨h',e,d⟩:=QA g hW ⟨-1,k,r,c, -1,0⟩
  simp only[aH]at e
  refine⟨h',?_,d⟩
  refine ag FQ rfl ?_;unfold yB
  simp only[sim,af,θ,ξ,η,reduceCtorEq,ψ,ω,aa,JO,hc,e]
theorem XZ (g:IsG h F J b G) (hW:G.Wf) (c r k:Int):∃ h',aj Tryz.prog po 66 [.ptr b 0 0,.int .i64 c,.int .i64 r,.int .i64 k] h=some (.inl (.tup [.int .i64 (G.cellC c r k).2.1,.int .i64 (G.cellC c r k).2.2]),h')∧cO h F J b h' (G.cellC c r k).1:=by
 unfold ae.cellC
 cases hc:iY c
 ·rw[if_neg (by simp)]
  refine⟨h,?_,cO.same g⟩
  have hc':decide (c<0)=true∨decide (c<0)=false∧decide (12≤c)=true:=by
   simp[iY]at hc
   simp only[decide_eq_true_eq,decide_eq_false_iff_not]
   omega
  refine ag Ei rfl ?_;unfold wn
  rcases hc' with hc' | ⟨hc',hc2⟩
  ·simp only[sim,af,θ,ξ,η,reduceCtorEq,ψ,ω,aa,hc']
  ·simp only[sim,af,θ,ξ,η,reduceCtorEq,ψ,ω,aa,hc',hc2]
 ·rw[if_pos rfl]
  have hc0:decide (c<0)=false:=by simp[iY]at hc;simp;omega
  have hc1:decide (12≤c)=false:=by simp[iY]at hc;simp;omega
  obtain⟨h',e,d⟩:=OW g hW ⟨-1,k,r,c, -1,0⟩
  simp only[aH]at e
  refine⟨h',?_,d⟩
  refine ag Ei rfl ?_;unfold wn
  simp only[sim,af,θ,ξ,η,reduceCtorEq,ψ,ω,aa,hc0,hc1,e]
theorem vT (p f:Int):(xP p f=true∧decide (p<0)=false∧decide (4≤p)=false∧decide (f<0)=false∧decide (6≤f)=false)∨
  (xP p f=false∧(decide (p<0)=true∨decide (p<0)=false∧decide (4≤p)=true∨decide (p<0)=false∧decide (4≤p)=false∧decide (f<0)=true∨decide (p<0)=false∧decide (4≤p)=false∧decide (f<0)=false∧decide (6≤f)=true)):=by
 simp only[xP,decide_eq_true_eq,decide_eq_false_iff_not]
 omega
theorem YF (g:IsG h F J b G) (hW:G.Wf) (p f r k:Int):∃ h',aj Tryz.prog po 60 [.ptr b 0 0,.int .i64 p,.int .i64 f,.int .i64 r,.int .i64 k] h=some (.inl (.tup [.int .i64 (G.funcC p f r k).2.1,.int .i64 (G.funcC p f r k).2.2]),h')∧cO h F J b h' (G.funcC p f r k).1:=by
 unfold ae.funcC
 rcases vT p f with⟨hc,h1,h2,h3,h4⟩ | ⟨hc,hx⟩
 ·rw[if_pos hc]
  obtain⟨h',e,d⟩:=QA g hW ⟨-1,k,r,0,p,f⟩
  simp only[aH]at e
  refine⟨h',?_,d⟩
  refine ag DN rfl ?_;unfold zh
  simp only[sim,af,θ,ξ,η,reduceCtorEq,ψ,ω,aa,h1,h2,h3,h4,e]
 ·rw[if_neg (by simp[hc])]
  refine⟨h,?_,cO.same g⟩
  refine ag DN rfl ?_;unfold zh
  rcases hx with h1 | ⟨h1,h2⟩ | ⟨h1,h2,h3⟩ | ⟨h1,h2,h3,h4⟩
  ·simp only[sim,af,θ,ξ,η,reduceCtorEq,ψ,ω,aa,h1]
  ·simp only[sim,af,θ,ξ,η,reduceCtorEq,ψ,ω,aa,h1,h2]
  ·simp only[sim,af,θ,ξ,η,reduceCtorEq,ψ,ω,aa,h1,h2,h3]
  ·simp only[sim,af,θ,ξ,η,reduceCtorEq,ψ,ω,aa,h1,h2,h3,h4]
theorem YQ (g:IsG h F J b G) (hW:G.Wf) (p f r k:Int):∃ h',aj Tryz.prog po 64 [.ptr b 0 0,.int .i64 p,.int .i64 f,.int .i64 r,.int .i64 k] h=some (.inl (.tup [.int .i64 (G.funcC p f r k).2.1,.int .i64 (G.funcC p f r k).2.2]),h')∧cO h F J b h' (G.funcC p f r k).1:=by
 unfold ae.funcC
 rcases vT p f with⟨hc,h1,h2,h3,h4⟩ | ⟨hc,hx⟩
 ·rw[if_pos hc]
  obtain⟨h',e,d⟩:=OW g hW ⟨-1,k,r,0,p,f⟩
  simp only[aH]at e
  refine⟨h',?_,d⟩
  refine ag Eb rfl ?_;unfold wD
  simp only[sim,af,θ,ξ,η,reduceCtorEq,ψ,ω,aa,h1,h2,h3,h4,e]
 ·rw[if_neg (by simp[hc])]
  refine⟨h,?_,cO.same g⟩
  refine ag Eb rfl ?_;unfold wD
  rcases hx with h1 | ⟨h1,h2⟩ | ⟨h1,h2,h3⟩ | ⟨h1,h2,h3,h4⟩
  ·simp only[sim,af,θ,ξ,η,reduceCtorEq,ψ,ω,aa,h1]
  ·simp only[sim,af,θ,ξ,η,reduceCtorEq,ψ,ω,aa,h1,h2]
  ·simp only[sim,af,θ,ξ,η,reduceCtorEq,ψ,ω,aa,h1,h2,h3]
  ·simp only[sim,af,θ,ξ,η,reduceCtorEq,ψ,ω,aa,h1,h2,h3,h4]
theorem xS (g:IsG h F J b G) (hW:G.Wf) (p r k:Int):∃ h',aj Tryz.prog po 84 [.ptr b 0 0,.int .i64 p,.int .i64 r,.int .i64 k] h=some (.inl (.tup [.int .i64 (G.derive p r k).2.1,.int .i64 (G.derive p r k).2.2]),h')∧cO h F J b h' (G.derive p r k).1:=by
 unfold ae.derive
 cases hc:G.has p
 ·rw[if_neg (by simp)]
  refine⟨h,?_,cO.same g⟩
  refine ag ye rfl ?_;unfold qm
  simp only[sim,af,θ,ξ,η,reduceCtorEq,ψ,ω,aa,Ff g,hc]
 ·rw[if_pos rfl]
  obtain⟨h',e,d⟩:=QA g hW ⟨p,k,r,0, -1,0⟩
  simp only[aH]at e
  refine⟨h',?_,d⟩
  refine ag ye rfl ?_;unfold qm
  simp only[sim,af,θ,ξ,η,reduceCtorEq,ψ,ω,aa,Ff g,hc,e]
theorem rM (g:IsG h F J b G) (hW:G.Wf) (p r k:Int):∃ h',aj Tryz.prog po 85 [.ptr b 0 0,.int .i64 p,.int .i64 r,.int .i64 k] h=some (.inl (.tup [.int .i64 (G.derive p r k).2.1,.int .i64 (G.derive p r k).2.2]),h')∧cO h F J b h' (G.derive p r k).1:=by
 obtain⟨nv,sv,h1,h2, -⟩:=g.ex
 unfold ae.derive
 cases hc:G.has p
 ·rw[if_neg (by simp)]
  refine⟨h,?_,cO.same g⟩
  have hc':decide (p<0)=true∨decide (p<0)=false∧decide ((G.nodes.length:Int)≤p)=true:=by
   simp[ae.has]at hc
   simp only[decide_eq_true_eq,decide_eq_false_iff_not]
   omega
  refine ag xx rfl ?_;unfold qs
  rcases hc' with hc' | ⟨hc',hc2⟩
  ·simp only[sim,af,θ,ξ,η,reduceCtorEq,ψ,ω,aa,hc']
  ·simp only[sim,af,θ,ξ,η,reduceCtorEq,ψ,ω,aa,hc',hc2,h1,h2.isL.len,h2.isL.fits,List.length_map]
 ·rw[if_pos rfl]
  have hc0:decide (p<0)=false:=by simp[ae.has]at hc;simp;omega
  have hc1:decide ((G.nodes.length:Int)≤p)=false:=by simp[ae.has]at hc;simp;omega
  obtain⟨h',e,d⟩:=OW g hW ⟨p,k,r,0, -1,0⟩
  simp only[aH]at e
  refine⟨h',?_,d⟩
  refine ag xx rfl ?_;unfold qs
  simp only[sim,af,θ,ξ,η,reduceCtorEq,ψ,ω,aa,hc0,hc1,h1,h2.isL.len,h2.isL.fits,List.length_map,e]
theorem ZZ:∃ h',aj Tryz.prog po 76 [] h=some (.inl (.ptr h.n 0 0),h')∧h'=h.push [[.nils,.nils]]:=by
 refine⟨_,?_,rfl⟩
 refine ag U8 rfl ?_;unfold K4
 simp only[sim,af,θ,ξ,η,reduceCtorEq,ψ,ω,aa]
theorem UI (h:AH):IsG (h.push [[.nils,.nils]]) (fun k=>k=h.n) (fun _=>False) h.n ⟨[],[]⟩:=
 ⟨⟨rfl,by simp[AH.push]⟩,⟨fun k hk=>by rw[hk];simp[AH.push],fun _=>False.elim⟩,.nils,.nils,ap,.inl ⟨rfl,rfl⟩,.inl ⟨rfl,rfl⟩⟩
end
section
variable {h h' h0:AH} {F J F0 J0:Nat→Prop} {L:List Asn}
theorem kD:∀ {ms:aO} {kept:List VD} {ks:List (List AV)},VaL kept ks→ms.length=kept.length→(eQ ms ks).length=5*ms.length
 | [],[],ks,h,_=>by simp only[VaL]at h;subst h;rfl
 | m::ms,k::kept,ks,h,hl=>by
   obtain⟨r,rs,rfl,h1,h2⟩:=h
   have ih:=kD (ms:=ms) h2 (by simpa using hl)
   simp only[eQ,List.cons_append,List.length_cons,List.length_append,ih,h1.len3.1]
   omega
 | [],_::_,_,_,hl=>by simp at hl
 | _::_,[],_,_,hl=>by simp at hl
theorem xu:∀ {ms:aO} {kept:List VD} {ks:List (List AV)} {p:Nat},VaL kept ks→ms.length=kept.length→p<ms.length→
  (eQ ms ks)[p*5]? =some (.bool (ms.getD p none).isSome)∧(eQ ms ks)[p*5+1]? =some (kV (ms.getD p none))∧∃ r,((eQ ms ks).drop (p*5+2)).take 3=r∧VaA (kept.getD p aK) r∧((eQ ms ks).drop (p*5)).take 5= .bool (ms.getD p none).isSome::kV (ms.getD p none)::r
 | [],kept,ks,p,_,_,hp=>by simp at hp
 | m::ms,[],ks,p,_,hl,_=>by simp at hl
 | m::ms,k::kept,ks,p,h,hl,hp=>by
   obtain⟨r,rs,rfl,h1,h2⟩:=h
   have h3:=h1.len3.1
   match r,h3 with
   | [a,b,c],_=>
     cases p with
     | zero=>exact⟨rfl,rfl,[a,b,c],rfl,h1,rfl⟩
     | succ p=>
       obtain⟨q1,q2,r',q3,q4,q5⟩:=xu (ms:=ms) (p:=p) h2 (by simpa using hl) (by simpa using hp)
       have e1:∀ j,(eQ (m::ms) ([a,b,c]::rs))[(p+1)*5+j]? =(eQ ms rs)[p*5+j]? :=fun j=>by
        have:(p+1)*5+j=p*5+j+5:=by omega
        rw[this]
        rfl
       have e2:∀ j,(eQ (m::ms) ([a,b,c]::rs)).drop ((p+1)*5+j)=(eQ ms rs).drop (p*5+j):=fun j=>by
        have:(p+1)*5+j=p*5+j+5:=by omega
        rw[this]
        rfl
       have f1:=e1 0
       have f2:=e2 0
       rw[Nat.add_zero,Nat.add_zero]at f1 f2
       exact⟨f1.trans q1,(e1 1).trans q2,r',by rw[e2 2];exact q3,q4,by rw[f2];exact q5⟩
theorem xk:∀ {ms:aO} {kept:List VD} {ks:List (List AV)} {p:Nat} {v:VD} {r:List AV},VaL kept ks→ms.length=kept.length→p<ms.length→VaA v r→
  ∃ ks',VaL (kept.set p v) ks'∧stA (eQ ms ks) (p*5+2) r=eQ ms ks'
 | [],kept,ks,p,_,_,_,_,hp,_=>by simp at hp
 | m::ms,[],ks,p,_,_,_,hl,_,_=>by simp at hl
 | m::ms,k::kept,ks,p,v,r,h,hl,hp,hv=>by
   obtain⟨r0,rs,rfl,h1,h2⟩:=h
   have h3:=h1.len3.1
   have h4:=hv.len3.1
   match r0,h3,r,h4 with
   | [a,b,c],_,[x,y,z],_=>
     cases p with
     | zero=>exact⟨[x,y,z]::rs,⟨_,_,rfl,hv,h2⟩,rfl⟩
     | succ p=>
       obtain⟨ks',q1,q2⟩:=xk (ms:=ms) (p:=p) h2 (by simpa using hl) (by simpa using hp) hv
       refine⟨[a,b,c]::ks',⟨_,_,rfl,h1,q1⟩,?_⟩
       have:(p+1)*5+2=p*5+2+5:=by omega
       rw[this]
       unfold stA at q2 ⊢
       simp only[eQ,List.cons_append,List.nil_append,List.take_succ_cons,List.length_cons,List.length_nil]
       rw[show p*5+2+5+(0+1+1+1)=p*5+2+3+5 by omega]
       simp only[List.drop_succ_cons]
       rw[←q2]
       simp
theorem vC {b gb wb:Nat} {ms:aO} {kept:List VD} (x:(ei b gb wb ms kept).A h F J) (hl:ms.length=kept.length):∃ row,h.cell b=some [row]∧b<h.n∧row[0]? =some (.ptr gb 0 0)∧row[1]? =some (.ptr wb 0 0)∧row.length=2+5*ms.length∧
  ∀ p:Nat,p<ms.length→row[2+p*5]? =some (.bool (ms.getD p none).isSome)∧row[2+p*5+1]? =some (kV (ms.getD p none))∧∃ r,ldA true 3 row (2+p*5+2)=some (.agg r)∧VaA (kept.getD p aK) r∧ldA true 5 row (2+p*5)=some (.agg (.bool (ms.getD p none).isSome::kV (ms.getD p none)::r)):=by
 obtain⟨ks,hk,_,_,h1,h2⟩:=x
 refine⟨_,h2,h1,rfl,rfl,by simp only[mi,List.length_cons,kD hk hl];omega,fun p hp=> ?_⟩
 obtain⟨q1,q2,r,q3,q4,q5⟩:=xu hk hl hp
 have e:∀ j,(mi gb wb ms ks)[2+p*5+j]? =(eQ ms ks)[p*5+j]? :=fun j=>by
  rw[show 2+p*5+j=p*5+j+1+1 by omega]
  rfl
 have e2:∀ j,(mi gb wb ms ks).drop (2+p*5+j)=(eQ ms ks).drop (p*5+j):=fun j=>by
  rw[show 2+p*5+j=p*5+j+1+1 by omega]
  rfl
 have hlen:=kD hk hl
 have f0:=e 0
 have f2:=e2 0
 rw[Nat.add_zero,Nat.add_zero]at f0 f2
 refine⟨f0.trans q1,(e 1).trans q2,r,?_,q4,?_⟩
 ·unfold ldA
  rw[if_pos rfl,if_pos (by simp only[mi,List.length_cons,hlen];omega),e2 2,q3]
 ·unfold ldA
  rw[if_pos rfl,if_pos (by simp only[mi,List.length_cons,hlen];omega),f2,q5]
theorem Tq {b gb wb:Nat} {ms:aO} {kept:List VD} (s:St h0 F0 J0 h L) (i:Nat) (hi:L[i]? =some (ei b gb wb ms kept)) (hl:ms.length=kept.length) {p:Nat} (hp:p<ms.length) {v:VD} {r:List AV} (hv:VaA v r):
  ∃ h',aZ 3 h (.ptr b 0 (2+p*5+2)) (.agg r)=some h'∧St h0 F0 J0 h' (L.set i (ei b gb wb ms (kept.set p v))):=by
 refine s.call (R:=fun h'=>aZ 3 h (.ptr b 0 (2+p*5+2)) (.agg r)=some h') i hi fun F J x=> ?_
 obtain⟨ks,hk,a1,a2,a3,a4⟩:=x
 obtain⟨ks',q1,q2⟩:=xk hk hl hp hv
 have hlen:=kD hk hl
 refine⟨_,bJ (es:=[mi gb wb ms ks]) (e:=mi gb wb ms ks) a4 rfl hv.len3.2 hv.len3.1 (by simp only[mi,List.length_cons,hlen];omega),F,J,⟨ks',q1,a1,a2,a3,?_⟩,⟨Nat.le_refl _,Nat.le_refl _,fun k _ hk'=>bu fun e=>hk' ((a1 k).2 e),fun _ _ _=>rfl⟩,fun _=> .inl,fun _=> .inl⟩
 rw[bR,List.set_cons_zero]
 have:stA (mi gb wb ms ks) (2+p*5+2) r=mi gb wb ms ks':=by
  unfold mi
  rw[←q2]
  unfold stA
  rw[show 2+p*5+2=p*5+2+1+1 by omega]
  simp only[List.take_succ_cons,List.cons_append]
  rw[show p*5+2+1+1+r.length=p*5+2+r.length+1+1 by omega]
  simp only[List.drop_succ_cons]
 simp only[AV.cells,this]
theorem tU {e:TypeId} {v:AV} {rows:List (List AV)} (x:(dC e v rows).A h F J) {row:List AV} (h1:row.all AV.one=true) (hl:rows.length≤1000000):
  ∃ v' h',aQ false e v (.isl (some h.ids) e [row]) (h.fresh 1)=some (v',h')∧v'.one=true∧v'.cells=[v']∧Did h F J h' (dC e v' (rows++[row]))∧h'.n=h.n∧h'.cell=h.cell:=by
 have h1':([row].all fun x=>x.all AV.one)=true:=by simpa using h1
 rcases x with⟨⟨rfl,rfl⟩,e1,e2⟩ | ⟨id,⟨hne,rfl⟩,a1,a2,a3,a4⟩
 ·refine⟨.isl (some (h.ids+1)) e [row],(h.fresh 1).fresh 1,?_,rfl,rfl,⟨fun _=>False,fun j=>j=h.ids+1,.inr ⟨h.ids+1,⟨by simp,rfl⟩,fun _ h=>h,fun _=>Iff.rfl,by simp[AH.fresh],by simp[AH.fresh]⟩,((ab.fresh h 1).trans (ab.fresh _ 1)).chg _ _,fun _ h=>h.elim,fun j hj=> .inr (by omega)⟩,rfl,rfl⟩
  simp only[aQ,cE,if_true,Option.bind_some,List.length_singleton,Nat.one_ne_zero,if_false,eS]
  rw[if_pos ⟨by omega,by omega,h1'⟩]
  rfl
 ·have hne':id≠h.ids:=by omega
  refine⟨.isl (some id) e (rows++[row]),(h.fresh 1).grow id (rows.length+1),?_,rfl,rfl,⟨fun _=>False,fun j=>j=id,.inr ⟨id,⟨by simp,rfl⟩,fun _ h=>h,fun _=>Iff.rfl,by simp[AH.grow,AH.fresh];omega,by simp[AH.grow]⟩,⟨Nat.le_refl _,by simp[AH.grow,AH.fresh],fun _ _ _=>rfl,fun j hj hJ=> ?_⟩,fun _ h=>h.elim,fun j hj=> .inl ((a2 j).2 hj)⟩,rfl,rfl⟩
  ·simp only[aQ,cE,if_true,Option.bind_some,List.length_singleton,Nat.one_ne_zero,if_false,eS]
   rw[if_pos ⟨by omega,by omega,h1'⟩,jM hne',a4]
   simp only[true_and,hl,if_true]
  ·rw[qE fun e=>hJ ((a2 j).2 e),jM (by omega)]
theorem nd {b:Nat} {cells:List Int} {log:List eO} (x:(bE b cells log).A h F J):∃ v,St h F J h [ah b [cells.map (.int .i64)++[v]],dC tEn v (log.map dR)]:=by
 obtain⟨v,x⟩:=x
 exact⟨v,St.start (bj.two x)⟩
theorem Ak {b:Nat} {cells:List Int} {log:List eO} {v:AV} (s:St h0 F0 J0 h [ah b [cells.map (.int .i64)++[v]],dC tEn v (log.map dR)]):Did h0 F0 J0 h (bE b cells log):=
 Did.imp (fun _ _ _ x=>by
  obtain⟨F1,J1,F2,J2,x1,x2,r⟩:=x
  exact⟨v,F1,J1,F2,J2,x1,bj.one' x2,r⟩) s
theorem mH {cells:List Int} {v:AV} (hl:cells.length=12) {j:Nat} (hj:j<12):(cells.map (AV.int .i64)++[v])[j]? =some (.int .i64 (cells.getD j 0))∧(cells.map (AV.int .i64)++[v])[12]? =some v∧(cells.map (AV.int .i64)++[v]).length=13:=by
 refine⟨?_,?_,by simp[hl]⟩
 ·rw[List.getElem?_append_left (by simp;omega)]
  simp[List.getD,show j<cells.length by omega]
 ·rw[List.getElem?_append_right (by simp;omega)]
  simp[hl]
theorem Ue {b:Nat} {cells:List Int} {log:List eO} (s0:St h0 F0 J0 h L) (i:Nat) (hi:L[i]? =some (bE b cells log)) (hl:cells.length=12) (hn:log.length≤1000000) {c:Int} (hc:0≤c∧c<12) (p n:Int):
  ∃ h',aj Tryz.prog po 148 [.ptr b 0 0,.int .i64 p,.int .i64 c,.int .i64 n] h=some (.inl (.tup [.int .i64 (cells.getD c.toNat 0),.bool true]),h')∧St h0 F0 J0 h' (L.set i (bE b cells (log++[⟨p,c,1,n⟩]))):=by
 refine s0.call (R:=fun h'=>aj Tryz.prog po 148 [.ptr b 0 0,.int .i64 p,.int .i64 c,.int .i64 n] h=some (.inl (.tup [.int .i64 (cells.getD c.toNat 0),.bool true]),h')) i hi fun F J x=> ?_
 obtain⟨v,s⟩:=nd x
 obtain⟨c1,c2⟩:=s.cell 0 rfl
 obtain⟨j,rfl⟩:=Int.eq_ofNat_of_zero_le hc.1
 have hj:j<12:=by omega
 obtain⟨g1,g2,g3⟩:=mH (v:=v) hl hj
 obtain⟨h1,v',⟨e1,o1,o2,n1,k1⟩,s1⟩:=s.callE (R:=fun h' v'=>aQ false tEn v (.isl (some h.ids) tEn [dR ⟨p,j,1,n⟩]) (h.fresh 1)=some (v',h')∧v'.one=true∧v'.cells=[v']∧h'.n=h.n∧h'.cell=h.cell) 1 rfl (Y:=fun v'=>dC tEn v' (log.map dR++[dR ⟨p,j,1,n⟩])) fun F J y=>by
  obtain⟨v',h',a1,a2,a3,a4,a5,a6⟩:=tU y (row:=dR ⟨p,j,1,n⟩) rfl (by simpa using hn)
  exact⟨h',v',⟨a1,a2,a3,a5,a6⟩,a4⟩
 have ix:∀ q:IntKind,bL none (some (12,1)) (.ptr b 0 0) (.int q (j:Int))=some (.ptr b 0 j):=fun q=>by simp[bL,hj]
 have hcell:iY (j:Int)=true:=by simp[iY];omega
 have c3:=(s1.cell 0 rfl).1
 have hst:stA (cells.map (AV.int .i64)++[v]) 12 [v']=cells.map (AV.int .i64)++[v']:=by
  unfold stA
  rw[List.take_left' (by simp[hl]),List.drop_of_length_le (by simp[hl])]
  simp
 have st:=bJ (n:=1) (x:=v') (off:=12) (i:=0) c3 rfl (by rw[o2];simpa using o1) (by rw[o2];rfl) (by omega)
 rw[o2,hst,List.set_cons_zero]at st
 have s2:=s1.set 0 rfl [cells.map (AV.int .i64)++[v']]
 have g4:=(mH (v:=v') hl hj).1
 refine⟨_,?_,Ak (v:=v') (log:=log++[⟨p,j,1,n⟩]) (by rw[List.map_append];exact s2)⟩
 have ld:∀ (x:AH) (k:Nat) (u:AV),(cells.map (AV.int .i64)++[u])[j]? =some (.int .i64 (cells.getD j 0))→x.cell b=some [cells.map (AV.int .i64)++[u]]→aR false k x (.ptr b 0 j)=some (.int .i64 (cells.getD j 0)):=fun x k u hu hx=>by
  rw[bP,hx,Option.bind_some,List.getElem?_cons_zero,Option.bind_some,hD,hu]
 have l12:∀ k:Nat,aR false k h (.ptr b 0 12)=some v:=fun k=>by
  rw[bP,c1,Option.bind_some,List.getElem?_cons_zero,Option.bind_some,hD,g2]
 have f12:aP 12 (.ptr b 0 0)=some (.ptr b 0 12):=rfl
 have lf:=ld _ 1 v' g4 (s2.cell 0 rfl).1
 simp only[dR]at e1
 refine ag Qe rfl ?_;unfold F7
 simp only[sim,af,θ,ξ,η,reduceCtorEq,ψ,ω,aa,au,JO,hcell,f12,l12,e1,o1,o2,st,ix,lf]
theorem Ni {b:Nat} {cells:List Int} {log:List eO} (s0:St h0 F0 J0 h L) (i:Nat) (hi:L[i]? =some (bE b cells log)) (hl:cells.length=12) (hn:log.length≤1000000) {c:Int} (hc:0≤c∧c<12) (p n z:Int):
  ∃ h',aj Tryz.prog po 149 [.ptr b 0 0,.int .i64 p,.int .i64 c,.int .i64 n,.int .i64 z] h=some (.inl (.bool true),h')∧St h0 F0 J0 h' (L.set i (bE b (cells.set c.toNat z) (log++[⟨p,c,2,n⟩]))):=by
 refine s0.call (R:=fun h'=>aj Tryz.prog po 149 [.ptr b 0 0,.int .i64 p,.int .i64 c,.int .i64 n,.int .i64 z] h=some (.inl (.bool true),h')) i hi fun F J x=> ?_
 obtain⟨v,s⟩:=nd x
 obtain⟨c1,c2⟩:=s.cell 0 rfl
 obtain⟨j,rfl⟩:=Int.eq_ofNat_of_zero_le hc.1
 have hj:j<12:=by omega
 obtain⟨g1,g2,g3⟩:=mH (v:=v) hl hj
 obtain⟨h1,v',⟨e1,o1,o2,n1,k1⟩,s1⟩:=s.callE (R:=fun h' v'=>aQ false tEn v (.isl (some h.ids) tEn [dR ⟨p,j,2,n⟩]) (h.fresh 1)=some (v',h')∧v'.one=true∧v'.cells=[v']∧h'.n=h.n∧h'.cell=h.cell) 1 rfl (Y:=fun v'=>dC tEn v' (log.map dR++[dR ⟨p,j,2,n⟩])) fun F J y=>by
  obtain⟨v',h',a1,a2,a3,a4,a5,a6⟩:=tU y (row:=dR ⟨p,j,2,n⟩) rfl (by simpa using hn)
  exact⟨h',v',⟨a1,a2,a3,a5,a6⟩,a4⟩
 have ix:∀ q:IntKind,bL none (some (12,1)) (.ptr b 0 0) (.int q (j:Int))=some (.ptr b 0 j):=fun q=>by simp[bL,hj]
 have hcell:iY (j:Int)=true:=by simp[iY];omega
 have c3:=(s1.cell 0 rfl).1
 have hst:stA (cells.map (AV.int .i64)++[v]) 12 [v']=cells.map (AV.int .i64)++[v']:=by
  unfold stA
  rw[List.take_left' (by simp[hl]),List.drop_of_length_le (by simp[hl])]
  simp
 have st:=bJ (n:=1) (x:=v') (off:=12) (i:=0) c3 rfl (by rw[o2];simpa using o1) (by rw[o2];rfl) (by omega)
 rw[o2,hst,List.set_cons_zero]at st
 have s2:=s1.set 0 rfl [cells.map (AV.int .i64)++[v']]
 have g4:=mH (v:=v') hl hj
 have hst2:stA (cells.map (AV.int .i64)++[v']) j [.int .i64 z]=(cells.set j z).map (AV.int .i64)++[v']:=by
  have:stA (cells.map (AV.int .i64)++[v']) j [.int .i64 z]=(cells.map (AV.int .i64)++[v']).set j (.int .i64 z):=by
   refine List.ext_getElem? fun i=> ?_
   rw[j9 _ _ _ _ (by simp only[List.length_singleton,g4.2.2];omega)]
   by_cases e:i=j
   ·subst e
    rw[if_pos (by simp only[List.length_singleton];omega),List.getElem?_set_self (by rw[g4.2.2];omega)]
    simp
   ·rw[if_neg (by simp only[List.length_singleton];omega),List.getElem?_set_ne (by omega)]
  rw[this,List.set_append_left _ _ (by simp;omega),List.map_set]
 have st2:=bJ (n:=1) (x:= .int .i64 z) (off:=j) (i:=0) (s2.cell 0 rfl).1 rfl rfl rfl (by rw[g4.2.2];omega)
 rw[show(AV.int .i64 z).cells=[.int .i64 z] from rfl,hst2,List.set_cons_zero]at st2
 have s3:=s2.set 0 rfl [(cells.set j z).map (AV.int .i64)++[v']]
 refine⟨_,?_,Ak (v:=v') (log:=log++[⟨p,j,2,n⟩]) (by rw[List.map_append];exact s3)⟩
 have l12:∀ k:Nat,aR false k h (.ptr b 0 12)=some v:=fun k=>by
  rw[bP,c1,Option.bind_some,List.getElem?_cons_zero,Option.bind_some,hD,g2]
 have f12:aP 12 (.ptr b 0 0)=some (.ptr b 0 12):=rfl
 simp only[dR]at e1
 refine ag LE rfl ?_;unfold AJ
 simp only[sim,af,θ,ξ,η,reduceCtorEq,ψ,ω,aa,au,JO,hcell,f12,l12,e1,o1,o2,st,ix,st2]
end
def Mv (h0:AH) (F J:Nat→Prop) (b:Nat) (h:AH) (G:ae) (C I:List Nat):Prop:=
 ∃ F' J',IsG h F' J' b G∧Chg F J h0 h∧(∀ k,F' k→F k∨h0.n≤k)∧(∀ j,J' j→J j∨h0.ids≤j)∧(∀ k∈C,h0.n≤k∧k<h.n∧¬ F' k)∧(∀ j∈I,h0.ids≤j∧j<h.ids∧¬ J' j)
section
variable {h0 h:AH} {F J:Nat→Prop} {b:Nat} {G G':ae} {C I:List Nat}
theorem Mv.start (g:IsG h F J b G):Mv h F J b h G [] []:=⟨F,J,g,Chg.refl _ _ _,fun _=> .inl,fun _=> .inl,by simp,by simp⟩
theorem Mv.did (m:Mv h0 F J b h G C I):cO h0 F J b h G:=by
 obtain⟨F',J',g,c,f,j,_⟩:=m
 exact⟨F',J',g,c,f,j⟩
theorem Mv.isG (m:Mv h0 F J b h G C I):∃ F' J',IsG h F' J' b G:=by
 obtain⟨F',J',g,_⟩:=m
 exact⟨F',J',g⟩
theorem Mv.n (m:Mv h0 F J b h G C I):h0.n≤h.n:=by
 obtain⟨_,_,_,c,_⟩:=m
 exact c.n
theorem Mv.lt (m:Mv h0 F J b h G C I) {k:Nat} (hk:k∈C):k<h.n:=by
 obtain⟨_,_,_,_,_,_,c,_⟩:=m
 exact(c k hk).2.1
theorem Mv.old (m:Mv h0 F J b h G C I) {k:Nat} (hk:k<h0.n) (hF:¬ F k):h.cell k=h0.cell k:=by
 obtain⟨_,_,_,c,_⟩:=m
 exact c.cell k hk hF
theorem Mv.grew {h':AH} (m:Mv h0 F J b h G C I) (x:ab h h'):Mv h0 F J b h' G C I:=by
 obtain⟨F',J',g,c,f,j,hc,hi⟩:=m
 refine⟨F',J',g.grew x,c.trans (x.chg _ _),f,j,fun k hk=> ?_,fun i hk=> ?_⟩
 ·obtain⟨a1,a2,a3⟩:=hc k hk
  exact⟨a1,Nat.lt_of_lt_of_le a2 x.n,a3⟩
 ·obtain⟨a1,a2,a3⟩:=hi i hk
  exact⟨a1,Nat.lt_of_lt_of_le a2 x.ids,a3⟩
theorem Mv.push (m:Mv h0 F J b h G C I) (r:List (List AV)):Mv h0 F J b (h.push r) G (h.n::C) I:=by
 have hn:=m.n
 obtain⟨F',J',g,c,f,j,hc,hi⟩:=m.grew (ab.push h r)
 obtain⟨F2,J2,g2,c2,f2,j2,hc2,hi2⟩:=m
 refine⟨F2,J2,g2.grew (ab.push h r),c,f2,j2,fun k hk=> ?_,fun i hk=> ?_⟩
 ·rcases List.mem_cons.1 hk with rfl | hk
  ·exact⟨hn,by simp[AH.push],fun hF=>by have:=g2.lt.1 _ hF;omega⟩
  ·obtain⟨a1,a2,a3⟩:=hc2 k hk
   exact⟨a1,by simp only[bd];omega,a3⟩
 ·exact hi2 i hk
theorem Mv.fresh (m:Mv h0 F J b h G C I) (r:Nat):Mv h0 F J b (h.fresh r) G C (h.ids::I):=by
 obtain⟨F2,J2,g2,c2,f2,j2,hc2,hi2⟩:=m
 refine⟨F2,J2,g2.grew (ab.fresh h r),c2.trans ((ab.fresh h r).chg _ _),f2,j2,hc2,fun i hk=> ?_⟩
 rcases List.mem_cons.1 hk with rfl | hk
 ·exact⟨c2.ids,by simp[AH.fresh],fun hF=>by have:=g2.lt.2 _ hF;omega⟩
 ·obtain⟨a1,a2,a3⟩:=hi2 i hk
  exact⟨a1,by simp only[uf];omega,a3⟩
theorem Mv.set (m:Mv h0 F J b h G C I) {c:Nat} (hk:c∈C) (es:Option (List (List AV))):Mv h0 F J b (h.set c es) G C I:=by
 obtain⟨F2,J2,g2,c2,f2,j2,hc2,hi2⟩:=m
 obtain⟨a1,a2,a3⟩:=hc2 c hk
 have x:Chg (fun k=>k=c) (fun _=>False) h (h.set c es):=⟨Nat.le_refl _,Nat.le_refl _,fun k _ hk=>bu hk,fun _ _ _=>rfl⟩
 refine⟨F2,J2,g2.keep x (fun k hk e=>a3 (e ▸ hk)) (fun _ _ h=>h),c2.then x (fun k e=> .inr (by rw[e];exact a1)) (fun _ h=>h.elim),f2,j2,hc2,hi2⟩
theorem Mv.grow (m:Mv h0 F J b h G C I) {i:Nat} (hk:i∈I) (r:Nat):Mv h0 F J b (h.grow i r) G C I:=by
 obtain⟨F2,J2,g2,c2,f2,j2,hc2,hi2⟩:=m
 obtain⟨a1,a2,a3⟩:=hi2 i hk
 have x:Chg (fun _=>False) (fun j=>j=i) h (h.grow i r):=⟨Nat.le_refl _,Nat.le_refl _,fun _ _ _=>rfl,fun j _ hj=>qE hj⟩
 exact⟨F2,J2,g2.keep x (fun _ _ h=>h) (fun j hj e=>a3 (e ▸ hj)),c2.then x (fun _ h=>h.elim) (fun j e=> .inr (by rw[e];exact a1)),f2,j2,hc2,hi2⟩
theorem Mv.callF {R:AH→Prop} (m:Mv h0 F J b h G C I) (c:∀ F2 J2,IsG h F2 J2 b G→(∀ k,k<h0.n→¬ F k→¬ F2 k)→(∀ k∈C,¬ F2 k)→∃ h',R h'∧cO h F2 J2 b h' G'):
  ∃ h',R h'∧Mv h0 F J b h' G' C I∧(∀ k∈C,h'.cell k=h.cell k)∧(∀ k,k<h0.n→¬ F k→h'.cell k=h.cell k)∧(∀ j∈I,h'.hw j=h.hw j):=by
 obtain⟨F2,J2,g2,c2,f2,j2,hc2,hi2⟩:=m
 obtain⟨h',r,F3,J3,g3,c3,f3,j3⟩:=c F2 J2 g2 (fun k hk hF h2=>by
  rcases f2 k h2 with h | h
  ·exact hF h
  ·omega) (fun k hk=>(hc2 k hk).2.2)
 have cc:=c2.then c3 f2 j2
 refine⟨h',r,⟨F3,J3,g3,cc,fun k hk=> ?_,fun j hj=> ?_,fun k hk=> ?_,fun i hk=> ?_⟩,fun k hk=>c3.cell k (hc2 k hk).2.1 (hc2 k hk).2.2,fun k hk hF=> ?_,fun j hj=>c3.hw j (hi2 j hj).2.1 (hi2 j hj).2.2⟩
 ·rcases f3 k hk with h | h
  ·exact f2 k h
  ·exact .inr (Nat.le_trans c2.n h)
 ·rcases j3 j hj with h | h
  ·exact j2 j h
  ·exact .inr (Nat.le_trans c2.ids h)
 ·obtain⟨a1,a2,a3⟩:=hc2 k hk
  refine⟨a1,Nat.lt_of_lt_of_le a2 c3.n,fun hF=> ?_⟩
  rcases f3 k hF with h | h
  ·exact a3 h
  ·omega
 ·obtain⟨a1,a2,a3⟩:=hi2 i hk
  refine⟨a1,Nat.lt_of_lt_of_le a2 c3.ids,fun hF=> ?_⟩
  rcases j3 i hF with h | h
  ·exact a3 h
  ·omega
 ·refine c3.cell k (Nat.lt_of_lt_of_le hk c2.n) fun hF2=> ?_
  rcases f2 k hF2 with h | h
  ·exact hF h
  ·omega
theorem Mv.call {R:AH→Prop} (m:Mv h0 F J b h G C I) (c:∀ F J,IsG h F J b G→∃ h',R h'∧cO h F J b h' G'):
  ∃ h',R h'∧Mv h0 F J b h' G' C I∧(∀ k∈C,h'.cell k=h.cell k)∧(∀ k,k<h0.n→¬ F k→h'.cell k=h.cell k)∧(∀ j∈I,h'.hw j=h.hw j):=m.callF fun F2 J2 g _ _=>c F2 J2 g
def tZ (e:TypeId) (I:List Nat) (h:AH) (v:AV) (acc:List (List AV)):Prop:=(acc=[]∧v= .nils)∨∃ id,id∈I∧acc≠[]∧h.hw id=acc.length∧v= .isl (some id) e acc
theorem tZ.sla {e:TypeId} {v:AV} {acc:List (List AV)} (a:tZ e I h v acc):SlA e v acc:=by
 rcases a with a | ⟨id,_,_,_,rfl⟩
 ·exact .inl a
 ·exact .inr ⟨_,rfl⟩
theorem tZ.cell {e:TypeId} {v:AV} {acc:List (List AV)} (a:tZ e I h v acc):v.one=true∧v.cells=[v]:=by
 rcases a with⟨_,rfl⟩ | ⟨id,_,_,_,rfl⟩<;>exact⟨rfl,rfl⟩
theorem tZ.keep {h':AH} {e:TypeId} {v:AV} {acc:List (List AV)} (a:tZ e I h v acc) (hk:∀ j∈I,h'.hw j=h.hw j):tZ e I h' v acc:=by
 rcases a with a | ⟨id,a1,a2,a3,a4⟩
 ·exact .inl a
 ·exact .inr ⟨id,a1,a2,(hk id a1).trans a3,a4⟩
theorem S8 {e:TypeId} {v:AV} {acc:List (List AV)} (m:Mv h0 F J b h G C I) (ha:tZ e I h v acc) {row:List AV} (h1:row.all AV.one=true) (hl:acc.length≤1000000):
  ∃ v' h' I',aQ false e v (.isl (some h.ids) e [row]) (h.fresh 1)=some (v',h')∧tZ e I' h' v' (acc++[row])∧Mv h0 F J b h' G C I'∧h'.cell=h.cell∧h'.n=h.n:=by
 have h1':∀ x,x∈row→x.one=true:=by simpa using h1
 rcases ha with⟨rfl,rfl⟩ | ⟨id,a1,a2,a3,rfl⟩
 ·refine⟨.isl (some (h.ids+1)) e [row],(h.fresh 1).fresh 1,(h.ids+1)::h.ids::I,?_,.inr ⟨h.ids+1,by simp,by simp,by simp[AH.fresh],by simp⟩,(m.fresh 1).fresh 1,rfl,rfl⟩
  simp only[aQ,cE,if_true,Option.bind_some,List.length_singleton,Nat.one_ne_zero,if_false,eS]
  rw[if_pos ⟨by omega,by omega,by simpa using h1'⟩]
  rfl
 ·have hlt:id<h.ids:=by
   obtain⟨_,_,_,_,_,_,_,hi⟩:=m
   exact(hi id a1).2.1
  have hne:id≠h.ids:=by omega
  refine⟨.isl (some id) e (acc++[row]),(h.fresh 1).grow id (acc.length+1),h.ids::I,?_,.inr ⟨id,by simp[a1],by simp,by simp[AH.grow],rfl⟩,(m.fresh 1).grow (by simp[a1]) _,rfl,rfl⟩
  simp only[aQ,cE,if_true,Option.bind_some,List.length_singleton,Nat.one_ne_zero,if_false,eS]
  rw[if_pos ⟨by omega,by omega,by simpa using h1'⟩,jM hne,a3]
  simp only[true_and,hl,if_true]
end
end Go.Proofs.YtkdbjfncchmmpaaGreat
