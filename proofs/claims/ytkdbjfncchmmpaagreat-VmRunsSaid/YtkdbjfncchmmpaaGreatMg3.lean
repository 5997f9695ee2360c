/- Steps that stand often, by short names. -/
import Derived.Test.YtkdbjfncchmmpaaGreatMg2
import Derived.WalkKit
import Derived.Test.YtkdbjfncchmmpaaGreatRows
import Derived.Recover
namespace Go.Proofs.YtkdbjfncchmmpaaGreat
open Nat renaming reduceAdd→θ,reduceSub→ξ,reduceLeDiff→ψ,reduceLT→ω
open List renaming replicate→η
set_option linter.unusedSimpArgs false
set_option linter.unusedVariables false
set_option linter.unusedSimpArgs false
set_option linter.unusedVariables false
open Go
abbrev ai:RI:=.i .l (.load false 1 (.l 0))
abbrev ay:RI:=.i .l (.mv (.v 0))
abbrev bg:RI:=.i .l (.nilc (.l 0))
abbrev aV:RI:=.i .l (.mv (.l 0))
abbrev bk:RI:=.i .l (.mv (.v 1))
abbrev bm:RI:=.i .l (.mv (.v 3))
abbrev iQ:RI:=.i .l (.build [(.int .i64 0),(.int .i64 0),.nils] [(0,1),(1,1),(2,1)] [])
abbrev oF:RI:=.i .l (.bin (.int .i64) .add (.l 0) (.c (.int .i64 1)))
abbrev bI:RI:=.i .l (.fad 0 (.l 0))
abbrev bY:RI:=.i .l (.ext (.l 1) 1)
abbrev br:RI:=.i .l (.ext (.l 0) 0)
abbrev eY:RI:=.i .l (.ixa (some 35) none (.l 0) (.c (.int .i64 0)))
abbrev bA:RI:=.i .l (.mv (.v 4))
abbrev gc:RI:=.i .l (.bin (.int .i64) .sub (.l 0) (.c (.int .i64 1)))
abbrev kI:RI:=.i (.v 3) (.mv (.c (.int .i64 0)))
abbrev bX:RI:=.i .l (.fad 1 (.l 0))
abbrev cV:RI:=.i (.v 3) (.mv (.l 0))
abbrev cQ:RI:=.i .l (.load true 3 (.l 0))
abbrev ur:RI:=.i (.v 2) (.mv (.c (.bool false)))
abbrev dM:RI:=.i (.v 6) (.mv (.l 0))
abbrev bN:RI:=.i .l (.mv (.v 2))
abbrev nL:RI:=.i (.v 4) (.mv (.c (.int .i64 0)))
abbrev bT:RI:=.i .l (.mv (.v 5))
abbrev kY:RI:=.i .n (.store 3 (.v 5) (.l 1))
abbrev dB:RI:=.i (.v 4) (.mv (.l 0))
abbrev jL:RI:=.i .l (.call (.c (.fn 90 [] [])) [(.l 0)])
abbrev jF:RI:=.i (.v 5) (.mv (.c (.int .i64 0)))
abbrev uk:RI:=.i (.v 2) (.mv (.c (.int .i64 0)))
abbrev dw:RI:=.i (.v 5) (.mv (.l 0))
abbrev jJ:RI:=.i .l (.bin (.int .i64) .lss (.l 0) (.c (.int .i64 0)))
abbrev fC:RI:=.i .l (.load true 4 (.l 0))
abbrev fU:RI:=.i .n (.store 1 (.l 0) (.l 2))
abbrev dW:RI:=.i .l (.fad 2 (.l 0))
abbrev dH:RI:=.i (.v 2) (.mv (.l 0))
abbrev fx:RI:=.i .l (.mv (.v 7))
abbrev fG:RI:=.g (.l 1) false .l (.load false 1 (.l 0))
abbrev dE:RI:=.i (.v 8) (.mv (.l 0))
abbrev pZ:RI:=.i .l (.bin (.int .i64) .geq (.l 0) (.c (.int .i64 0)))
abbrev jB:RI:=.i (.v 6) (.mv (.c (.int .i64 0)))
abbrev dQ:RI:=.i .l (.mv (.v 6))
abbrev sK:RI:=.i (.v 4) (.alloc [(.int .i64 0),(.int .i64 0),.nils])
abbrev jG:RI:=.i .l (.len false (some 109) (.l 0))
abbrev lC:RI:=.i .l (.len false (some 35) (.l 0))
abbrev fV:RI:=.i (.v 7) (.mv (.l 0))
abbrev rZ:RI:=.i .l (.pick (.l 2) (.c (.bool true)) (.l 0))
abbrev fT:RI:=.i .l (.fad 0 (.v 1))
abbrev ZG:RI:=.i .l (.call (.l 0) [(.c (.int .i64 2))])
abbrev kS:RI:=.i .n (.store 3 (.v 5) (.l 0))
abbrev jW:RI:=.i (.v 8) (.mv (.c (.int .i64 0)))
abbrev lE:RI:=.g (.l 1) true .l (.load false 1 (.l 0))
abbrev uU:RI:=.i (.v 5) (.alloc [(.int .i64 0),(.int .i64 0),.nils])
abbrev oC:RI:=.i .l (.ixa (some 109) none (.l 1) (.l 0))
abbrev oE:RI:=.i .l (.ixa (some 35) none (.l 1) (.l 0))
abbrev oU:RI:=.i .l (.bin (.int .i64) .neq (.l 0) (.c (.int .i64 0)))
abbrev eu:RI:=.i .l (.fad 1 (.v 3))
abbrev iS:RI:=.i (.v 1) (.mv (.l 0))
abbrev D5:RI:=.g (.l 1) false .l (.bin (.int .i64) .lss (.l 0) (.c (.int .i64 0)))
abbrev K1:RI:=.i .l (.build [(.int .i64 0),(.int .i64 0),.nils] [(0,1),(1,1),(2,1)] [(0,(.c (.int .i64 2))),(2,(.l 0))])
abbrev Le:RI:=.i .l (.build [(.int .i64 0),(.int .i64 0),.nils] [(0,1),(1,1),(2,1)] [(0,(.c (.int .i64 1))),(1,(.l 0))])
abbrev pV:RI:=.i .l (.pick (.l 3) (.c (.bool true)) (.l 0))
abbrev pT:RI:=.g (.l 0) false .l (.mv (.v 1))
abbrev oz:RI:=.i .n (.store 3 (.v 7) (.l 0))
abbrev KD:RI:=.i .l (.bsl false 137 [(.int .i64 0),(.int .i64 0),(.int .i64 0),(.int .i64 0)] 4 1 [(0,(.l 0))])
abbrev mt:RI:=.i .l (.load true 3 (.v 4))
abbrev md:RI:=.i .l (.load true 3 (.v 3))
abbrev ui:RI:=.i .l (.len false (some 132) (.l 0))
abbrev O0:RI:=.i .l (.build [(.int .i64 0),(.int .i64 0),(.int .i64 0),(.int .i64 0),(.int .i64 0),(.int .i64 0)] [(0,1),(1,1),(2,1),(3,1),(4,1),(5,1)] [])
abbrev D2:RI:=.i .l (.call (.c (.fn 95 [] [])) [(.l 7),(.l 6),(.l 2),(.l 1),(.l 0)])
abbrev nZ:RI:=.i (.v 9) (.mv (.l 0))
abbrev wh:RI:=.i .l (.pick (.l 2) (.l 0) (.c (.bool false)))
abbrev yT:RI:=.i .l (.bin (.int .i64) .eql (.l 0) (.c (.int .i64 5)))
abbrev Kf:RI:=.g (.l 1) false .l (.bin (.int .i64) .geq (.l 0) (.c (.int .i64 4)))
abbrev oR:RI:=.i (.v 7) (.mv (.c (.int .i64 0)))
abbrev zZ:RI:=.i (.v 3) (.mv (.c (.bool false)))
abbrev mp:RI:=.i (.v 10) (.mv (.l 0))
abbrev lB:RI:=.i .l (.load true 3 (.v 2))
abbrev VV:RI:=.i .l (.bsl false 132 [(.int .i64 0),(.int .i64 0),(.int .i64 0),(.int .i64 0),(.int .i64 0),(.int .i64 0)] 6 1 [(0,(.l 0))])
abbrev jU:RI:=.i .l (.fad 1 (.v 4))
abbrev DT:RI:=.i .l (.call (.c (.fn 91 [] [])) [(.l 0),(.c (.int .i64 4))])
abbrev Ai:RI:=.i (.v 1) (.box 3 (.v 0))
abbrev yy:RI:=.g (.l 0) false .l (.mv (.v 2))
abbrev oZ:RI:=.i .l (.load true 3 (.v 6))
abbrev pU:RI:=.i .l (.load true 3 (.v 5))
abbrev sM:RI:=.i .n (.store 3 (.v 7) (.l 1))
abbrev pw:RI:=.i .n (.store 2 (.v 2) (.l 0))
abbrev Xe:RI:=.i .l (.build [(.int .i64 0),(.int .i64 0),(.int .i64 0),(.int .i64 0),(.int .i64 0),(.int .i64 0)] [(0,1),(1,1),(2,1),(3,1),(4,1),(5,1)] [(0,(.c (.int .i64 (-1)))),(1,(.l 2)),(2,(.l 1)),(3,(.l 0)),(4,(.c (.int .i64 (-1))))])
abbrev Lg:RI:=.i (.v 2) (.mv (.c (.bool true)))
abbrev lJ:RI:=.i .l (.mv (.v 8))
abbrev nP:RI:=.i .l (.fad 7 (.l 0))
abbrev qc:RI:=.i .l (.fad 3 (.v 2))
abbrev KP:RI:=.i .l (.bsl false 35 [(.int .i64 0),(.int .i64 0),.nils] 3 1 [(0,(.l 0))])
abbrev mr:RI:=.i .l (.mv (.v 10))
abbrev zF:RI:=.i .l (.ixa none (some (4,5)) (.l 0) (.l 2))
abbrev FK:RI:=.i (.v 7) (.alloc [(.int .i64 0),(.int .i64 0),.nils])
abbrev Er:RI:=.i (.v 3) (.alloc [(.int .i64 0),(.int .i64 0),.nils])
abbrev Eq:RI:=.i (.v 1) (.alloc [(.int .i64 0),(.int .i64 0),.nils])
abbrev VU:RI:=.i .l (.build [(.int .i64 0),(.int .i64 0),(.int .i64 0),(.int .i64 0),(.int .i64 0),(.int .i64 0)] [(0,1),(1,1),(2,1),(3,1),(4,1),(5,1)] [(0,(.c (.int .i64 (-1)))),(1,(.l 3)),(2,(.l 2)),(4,(.l 1)),(5,(.l 0))])
abbrev sI:RI:=.i .l (.load true 6 (.l 0))
abbrev FC:RI:=.i .l (.bsl false 3 [(.int .i64 0)] 1 1 [(0,(.l 0))])
abbrev RQ:RI:=.i (.v 6) (.alloc [(.int .i64 0),(.int .i64 0),(.int .i64 0),(.int .i64 0),(.int .i64 0),(.int .i64 0)])
abbrev Id:RI:=.i (.v 4) (.alloc [(.int .i64 0),(.int .i64 0),(.int .i64 0),(.int .i64 0),(.int .i64 0),(.int .i64 0)])
abbrev iX:RI:=.i .l (.mv (.v 9))
abbrev nn:RI:=.i .n (.store 3 (.v 4) (.l 0))
abbrev pj:RI:=.i .n (.store 1 (.l 0) (.l 1))
abbrev oW:RI:=.g (.l 0) true .l (.mv (.v 0))
abbrev jQ:RI:=.i .l (.fad 2 (.v 3))
abbrev kJ:RI:=.i .l (.fad 2 (.v 1))
abbrev g9:RI:=.i .l (.fad 0 (.v 3))
abbrev yG:RI:=.i (.v 2) (.mv (.c .nils))
abbrev tq:RI:=.g (.l 3) false .l (.load false 1 (.l 0))
abbrev Q7:RI:=.i .l (.build [(.int .i64 0),(.int .i64 0),(.int .i64 0),(.int .i64 0),(.int .i64 0),(.int .i64 0)] [(0,1),(1,1),(2,1),(3,1),(4,1),(5,1)] [(0,(.l 2)),(1,(.l 1)),(2,(.l 0)),(4,(.c (.int .i64 (-1))))])
abbrev ql:RI:=.i (.v 1) (.mv (.c (.int .i64 0)))
abbrev BR:RI:=.g (.l 2) true .l (.bin (.int .i64) .lss (.l 0) (.c (.int .i64 0)))
abbrev qP:RI:=.g (.l 0) false .l (.fad 0 (.v 1))
abbrev wC:RI:=.i .l (.call (.c (.fn 114 [] [])) [(.l 1),(.l 0)])
abbrev IF:RI:=.i .l (.call (.c (.fn 79 [] [])) [(.l 4),(.l 0)])
abbrev I0:RI:=.i .l (.build [(.int .i64 0),(.int .i64 0),.nils] [(0,1),(1,1),(2,1)] [(0,(.l 2)),(1,(.l 0))])
abbrev lL:RI:=.i .l (.fad 3 (.v 3))
abbrev lQ:RI:=.i .l (.fad 2 (.v 2))
abbrev B1:RI:=.i .l (.call (.c (.fn 91 [] [])) [(.l 0),(.c (.int .i64 1))])
abbrev BC:RI:=.i .l (.call (.c (.fn 89 [] [])) [(.l 0),(.c (.int .i64 2))])
abbrev Ds:RI:=.i (.v 11) (.bin (.int .i64) .eql (.l 0) (.c (.int .i64 0)))
abbrev Gt:RI:=.i .l (.bsl false 109 [(.int .i64 0),(.int .i64 0),(.int .i64 0),.nils] 4 1 [(0,(.l 0))])
abbrev mU:RI:=.i (.v 13) (.mv (.l 0))
abbrev mV:RI:=.i (.v 11) (.mv (.l 0))
abbrev lP:RI:=.i .l (.nilc (.l 1))
abbrev Dh:RI:=.i .l (.call (.l 1) [(.l 0)])
abbrev xV:RI:=.i .l (.bin (.int .i64) .lss (.l 3) (.l 0))
abbrev nH:RI:=.i (.v 5) (.mv (.l 1))
abbrev nq:RI:=.i (.v 4) (.mv (.l 1))
abbrev qt:RI:=.i (.v 3) (.box 3 (.v 1))
abbrev DC:RI:=.i (.v 2) (.box 3 (.v 1))
abbrev sS:RI:=.i .l (.len false (some 3) (.l 0))
abbrev pa:RI:=.i (.v 9) (.mv (.c (.int .i64 0)))
abbrev xa:RI:=.i .l (.ixa (some 132) none (.l 1) (.l 0))
abbrev HN:RI:=.i .l (.call (.c (.fn 88 [] [])) [(.l 0)])
abbrev Dk:RI:=.i .l (.bin (.int .i64) .eql (.l 0) (.c (.int .i64 0)))
abbrev Yl:RI:=.i .l (.bin (.int .i64) .add (.v 9) (.c (.int .i64 1)))
abbrev mO:RI:=.i .l (.fad 1 (.v 2))
abbrev iW:RI:=.i .l (.fad 0 (.v 4))
abbrev wM:RI:=.g (.l 7) false .l (.load false 1 (.l 0))
abbrev Ja:RI:=.i .l (.ixa (some 109) none (.l 0) (.c (.int .i64 1)))
abbrev II:RI:=.i .l (.ixa (some 109) none (.l 0) (.c (.int .i64 0)))
abbrev C6:RI:=.i (.v 9) (.alloc [(.int .i64 0),(.int .i64 0),.nils])
abbrev Dz:RI:=.i (.v 6) (.alloc [(.int .i64 0),(.int .i64 0),.nils])
abbrev BF:RI:=.i (.v 2) (.alloc [(.int .i64 0),(.int .i64 0),.nils])
abbrev qM:RI:=.i .l (.load true 3 (.v 1))
abbrev Dl:RI:=.i .l (.ixa (some 35) none (.l 0) (.c (.int .i64 1)))
abbrev wR:RI:=.g (.l 3) true .l (.load false 1 (.l 0))
abbrev lW:RI:=.i .l (.un .not (.l 0))
abbrev oN:RI:=.i .l (.nilc (.l 4))
abbrev Nc:RI:=.i .l (.bsl true 126 [(.int .i64 0),(.int .i64 0),(.int .i64 0),(.int .i64 0),(.int .i64 0),.nils,.nils,.nils,(.bool false),.nils] 10 1 [(0,(.l 0))])
abbrev ni:RI:=.i .l (.mv (.v 11))
abbrev BM:RI:=.i .l (.call (.c (.fn 89 [] [])) [(.l 1),(.l 0)])
abbrev Xx:RI:=.i (.v 10) (.bin (.int .i64) .lss (.v 9) (.v 8))
abbrev Bf:RI:=.i .l (.len false (some 126) (.l 0))
abbrev pk:RI:=.i .l (.fad 0 (.v 2))
abbrev Bh:RI:=.i (.v 5) (.bin (.int .i64) .lss (.l 2) (.l 0))
abbrev BA:RI:=.i (.v 4) (.bin (.int .i64) .neq (.l 2) (.l 0))
abbrev Bg:RI:=.i .l (.pick (.l 5) (.l 0) (.c (.bool false)))
abbrev yH:RI:=.i .l (.pick (.l 3) (.l 0) (.c (.bool false)))
abbrev qh:RI:=.i .l (.nilc (.l 2))
abbrev xD:RI:=.i (.v 4) (.mv (.c (.int .i64 1)))
abbrev mR:RI:=.i (.v 17) (.mv (.l 0))
abbrev HH:RI:=.g (.l 2) true .l (.bin (.int .i64) .neq (.l 0) (.c (.int .i64 0)))
abbrev GD:RI:=.g (.l 1) true .l (.bin (.int .i64) .eql (.l 0) (.c (.int .i64 1)))
abbrev tv:RI:=.i (.v 6) (.un .not (.l 0))
abbrev Dr:RI:=.i .l (.ixa none (some (4,1)) (.l 0) (.l 2))
abbrev vJ:RI:=.i (.v 3) (.mv (.c (.bool true)))
abbrev xW:RI:=.g (.l 0) true .l (.fad 1 (.v 1))
abbrev Br:RI:=.i .l (.bin (.int .i64) .sub (.l 4) (.l 0))
abbrev IA:RI:=.i .l (.bin (.int .i64) .sub (.l 1) (.l 0))
abbrev yr:RI:=.i .l (.bin (.int .i64) .neq (.l 1) (.l 0))
abbrev XK:RI:=.i (.v 1) (.mv (.c .nils))
abbrev PX:RI:=.i .l (.build [(.bool false),.nils,(.int .i64 0),(.int .i64 0),.nils] [(0,1),(1,1),(2,3)] [(0,(.c (.bool true))),(1,(.l 0))])
abbrev vX:RI:=.i (.v 7) (.load false 1 (.l 0))
abbrev xC:RI:=.i (.v 6) (.load false 1 (.l 0))
abbrev qv:RI:=.i .l (.fad 3 (.v 5))
abbrev xI:RI:=.i .l (.build [(.int .i64 0),(.int .i64 0)] [(0,1),(1,1)] [])
abbrev Gk:RI:=.i (.v 16) (.bin (.int .i64) .neq (.l 0) (.c (.int .i64 0)))
abbrev Ci:RI:=.i .l (.ixa (some 3) none (.l 1) (.l 0))
abbrev xM:RI:=.i .n (.store 3 (.v 4) (.l 1))
abbrev tM:RI:=.i .n (.store 3 (.v 3) (.l 0))
abbrev xN:RI:=.i .n (.store 3 (.v 1) (.l 0))
abbrev Ix:RI:=.i (.v 8) (.bin (.int .i64) .neq (.l 0) (.c (.int .i64 0)))
abbrev Dt:RI:=.g (.l 0) true .l (.mv (.v 1))
abbrev tK:RI:=.i (.v 14) (.mv (.l 0))
abbrev sT:RI:=.i (.v 12) (.mv (.l 0))
abbrev td:RI:=.i .l (.mv (.v 17))
abbrev qx:RI:=.i .l (.mv (.v 14))
abbrev yR:RI:=.i .l (.bin (.int .i64) .lss (.l 0) (.c (.int .i64 1)))
abbrev YK:RI:=.i .l (.bin (.int .i64) .add (.v 8) (.c (.int .i64 1)))
abbrev HX:RI:=.i (.v 12) (.alloc [(.int .i64 0),(.int .i64 0),.nils])
abbrev Ty:RI:=.g (.l 6) true .l (.bin (.int .i64) .lss (.l 5) (.l 0))
abbrev Jg:RI:=.g (.l 2) true .l (.bin (.int .i64) .leq (.l 1) (.l 0))
abbrev Ij:RI:=.i (.v 8) (.alloc [(.int .i64 0),(.int .i64 0),.nils])
abbrev Qh:RI:=.i .l (.build [(.int .i64 0),(.int .i64 0),.nils] [(0,1),(1,1),(2,1)] [(0,(.c (.int .i64 5))),(1,(.l 0))])
abbrev Nv:RI:=.i .l (.build [(.int .i64 0),(.int .i64 0),.nils] [(0,1),(1,1),(2,1)] [(0,(.c (.int .i64 4))),(1,(.l 0))])
abbrev ti:RI:=.i (.v 6) (.mv (.l 1))
abbrev zc:RI:=.i .l (.load true 4 (.v 4))
abbrev NC:RI:=.i (.v 5) (.alloc [(.int .i64 0),(.int .i64 0),(.int .i64 0),(.int .i64 0),(.int .i64 0),(.int .i64 0)])
abbrev SV:RI:=.i (.v 2) (.alloc [(.int .i64 0),(.int .i64 0),(.int .i64 0),(.int .i64 0),(.int .i64 0),(.int .i64 0)])
abbrev B4:RI:=.g (.l 4) true .l (.un .not (.l 0))
abbrev X0:RI:=.i (.v 3) (.mv (.c .nils))
abbrev IB:RI:=.i .l (.len false (some 4) (.l 0))
abbrev BO:RI:=.i (.v 5) (.mv (.c (.bool false)))
abbrev BV:RI:=.i (.v 4) (.mv (.c (.bool false)))
abbrev XX:RI:=.i (.v 3) (.mv (.c (.int .i64 9)))
abbrev X9:RI:=.i (.v 3) (.mv (.c (.int .i64 1)))
abbrev G6:RI:=.i .l (.call (.c (.fn 154 [] [])) [(.l 1),(.l 0)])
abbrev Iz:RI:=.i .l (.call (.c (.fn 114 [] [])) [(.l 5),(.l 0)])
abbrev RJ:RI:=.i (.v 7) (.pick (.l 2) (.c (.bool true)) (.l 0))
abbrev H8:RI:=.i (.v 2) (.box 4 (.v 0))
abbrev wc:RI:=.i (.v 1) (.box 1 (.v 0))
abbrev HJ:RI:=.i (.v 2) (.alloc [(.int .i64 0),(.int .i64 0)])
abbrev Gc:RI:=.i (.v 9) (.bin (.int .i64) .lss (.v 8) (.v 7))
abbrev GT:RI:=.i (.v 5) (.bin (.int .i64) .lss (.l 3) (.l 0))
abbrev PS:RI:=.i .l (.pick (.l 7) (.l 0) (.c (.bool false)))
abbrev Cl:RI:=.i .l (.mv (.v 22))
abbrev sZ:RI:=.i .l (.mv (.v 13))
abbrev CW:RI:=.g (.l 1) false .l (.mv (.v 0))
abbrev CK:RI:=.g (.l 0) false .l (.mv (.v 4))
abbrev vM:RI:=.i (.v 15) (.mv (.l 0))
abbrev Bi:RI:=.i .n (.store 6 (.v 4) (.l 0))
abbrev B2:RI:=.i .n (.store 6 (.v 2) (.l 0))
abbrev BL:RI:=.i .n (.store 3 (.v 6) (.l 0))
abbrev xK:RI:=.i .n (.store 3 (.v 2) (.l 0))
abbrev Cw:RI:=.g (.l 0) true .l (.mv (.v 4))
abbrev Hu:RI:=.i .l (.ixa none (some (4,3)) (.l 0) (.l 2))
abbrev xy:RI:=.i .l (.fad 12 (.l 0))
abbrev GM:RI:=.i .l (.call (.c (.fn 115 [] [])) [(.l 0)])
abbrev Qv:RI:=.i .l (.bsl false 35 [(.int .i64 0),(.int .i64 0),.nils] 3 2 [(0,(.l 2)),(1,(.l 0))])
abbrev Gn:RI:=.i .l (.bin (.int .i64) .eql (.l 1) (.l 0))
abbrev wm:RI:=.i (.v 0) (.mv (.l 0))
abbrev Hn:RI:=.i .n (.store 1 (.v 8) (.c (.int .i64 0)))
abbrev ID:RI:=.i .l (.ixa (some 109) none (.v 7) (.v 9))
abbrev IW:RI:=.i .l (.call (.c (.fn 96 [] [])) [(.l 0)])
abbrev I5:RI:=.i .l (.call (.c (.fn 53 [] [])) [(.l 0)])
abbrev Jk:RI:=.i .l (.call (.c (.fn 47 [] [])) [(.l 0)])
abbrev PO:RI:=.i .l (.build [(.int .i64 0),(.int .i64 0)] [(0,1),(1,1)] [(0,(.l 1)),(1,(.l 0))])
abbrev Hg:RI:=.i .l (.ixa (some 80) none (.l 1) (.l 0))
abbrev xd:RI:=.i .l (.fad 3 (.l 0))
abbrev DB:RI:=.i .l (.box 2 (.l 0))
abbrev Bz:RI:=.i .l (.load true 3 (.v 9))
abbrev wU:RI:=.i .l (.load true 1 (.v 3))
abbrev Gh:RI:=.i (.v 8) (.len false (some 109) (.v 7))
abbrev QH:RI:=.g (.l 4) true .l (.load false 1 (.l 0))
abbrev Gq:RI:=.g (.l 2) true .l (.load false 1 (.l 0))
abbrev YP:RI:=.i (.v 0) (.mv (.c .nilp))
abbrev BI:RI:=.i (.v 2) (.box 3 (.v 0))
abbrev Ih:RI:=.i .l (.len false (some 137) (.l 0))
abbrev OL:RI:=.g (.l 1) false .l (.bin (.int .i64) .gtr (.l 0) (.c (.int .i64 2000)))
abbrev BQ:RI:=.i .l (.len false (some 80) (.l 0))
abbrev Gu:RI:=.i (.v 11) (.mv (.c (.int .i64 0)))
abbrev Q5:RI:=.i .l (.bsn 35 [(.int .i64 0),(.int .i64 0),.nils] 3 1 [(0,(.l 0))])
abbrev PC:RI:=.i (.v 6) (.alloc [(.int .i64 0),(.int .i64 0),(.int .i64 0),.nils])
abbrev O8:RI:=.i (.v 4) (.alloc [(.int .i64 0),(.int .i64 0),(.int .i64 0),.nils])
abbrev NM:RI:=.g (.l 4) false .l (.bin (.int .i64) .neq (.l 0) (.c (.int .i64 1)))
abbrev NG:RI:=.g (.l 3) false .l (.bin (.int .i64) .gtr (.l 0) (.c (.int .i64 6)))
abbrev Do:RI:=.g (.l 2) false .l (.bin (.int .i64) .gtr (.l 0) (.c (.int .i64 5)))
abbrev IN:RI:=.g (.l 1) true .l (.bin (.int .i64) .eql (.l 0) (.c (.int .i64 12)))
abbrev YT:RI:=.g (.l 1) false .l (.bin (.int .i64) .geq (.l 0) (.c (.int .i64 6)))
abbrev Hx:RI:=.i .l (.len false (some 2) (.l 0))
abbrev IL:RI:=.i (.v 6) (.mv (.c (.int .i64 1)))
abbrev xj:RI:=.i (.v 5) (.mv (.c (.int .i64 1)))
abbrev CV:RI:=.i (.v 22) (.mv (.l 0))
abbrev Gv:RI:=.i (.v 2) (.mv (.c (.int .i64 5)))
abbrev G8:RI:=.i (.v 1) (.mv (.c (.bool false)))
abbrev C0:RI:=.g (.l 2) true .l (.bin (.int .i64) .neq (.l 0) (.c (.int .i64 2)))
abbrev Iv:RI:=.g (.l 2) false .l (.fad 0 (.l 0))
abbrev SN:RI:=.g (.l 1) true .l (.bin (.int .i64) .geq (.l 0) (.c (.int .i64 0)))
abbrev mS:RI:=.g (.l 0) false .l (.fad 1 (.v 3))
abbrev Yo:RI:=.i .l (.build [.nilp,.nils] [(0,1),(1,1)] [(0,(.l 1)),(1,(.l 0))])
abbrev R9:RI:=.g (.l 1) false .l (.ixa (some 35) none (.l 0) (.c (.int .i64 1)))
abbrev Gd:RI:=.g (.l 5) false .l (.nilc (.l 0))
abbrev Ia:RI:=.g (.l 2) true .l (.fad 1 (.l 0))
abbrev I8:RI:=.g (.l 1) false .l (.nilc (.l 0))
abbrev YS:RI:=.i .l (.bsl true 4 [(.bool false)] 1 1 [(0,(.c (.bool false)))])
abbrev GY:RI:=.i (.v 9) (.load false 1 (.l 0))
abbrev Q2:RI:=.g (.l 2) true .l (.nilc (.l 0))
abbrev Gi:RI:=.g (.l 1) true .l (.nilc (.l 0))
abbrev Ii:RI:=.i .n (.store 3 (.v 12) (.l 1))
abbrev lV:RI:=.i .l (.fad 6 (.l 0))
abbrev Bs:RI:=.i .l (.fad 4 (.v 6))
abbrev CL:RI:=.i .l (.fad 1 (.v 1))
abbrev BB:RI:=.i .l (.ext (.l 2) 2)
abbrev XP:RI:=.i .l (.call (.c (.fn 89 [] [])) [(.l 0),(.c (.int .i64 4))])
abbrev H2:RI:=.g (.l 4) false .l (.mv (.v 5))
abbrev IJ:RI:=.g (.l 0) false .l (.mv (.v 3))
abbrev CN:RI:=.i (.v 15) (.bin (.int .i64) .neq (.l 0) (.c (.int .i64 0)))
abbrev HR:RI:=.i .n (.store 3 (.l 0) (.l 3))
abbrev SQ:RI:=.i (.v 7) (.bin (.int .i64) .neq (.l 0) (.c (.int .i64 0)))
abbrev SW:RI:=.i (.v 5) (.bin (.int .i64) .eql (.l 0) (.c (.int .i64 4)))
abbrev Td:RI:=.i (.v 5) (.bin (.int .i64) .eql (.l 0) (.c (.int .i64 0)))
abbrev Gf:RI:=.g (.l 7) false .l (.pick (.l 3) (.l 0) (.c (.bool false)))
abbrev G7:RI:=.g (.l 1) true .l (.mv (.v 1))
abbrev RN:RI:=.g (.l 1) true .l (.mv (.v 0))
abbrev xz:RI:=.i .l (.nilc (.l 6))
abbrev SU:RI:=.i .l (.bin (.int .i64) .neq (.l 0) (.c (.int .i64 (-1))))
abbrev I9:RI:=.i .l (.load false 1 (.v 11))
abbrev Xl:RI:=.i .l (.bin (.int .i64) .eql (.l 0) (.c (.int .i64 20)))
abbrev SP:RI:=.i .l (.bin (.int .i64) .add (.v 11) (.c (.int .i64 1)))
abbrev P5:RI:=.g (.l 6) false .l (.bin (.int .i64) .geq (.l 5) (.l 0))
abbrev O4:RI:=.g (.l 2) false .l (.bin (.int .i64) .neq (.l 1) (.l 0))
abbrev Dw:RI:=.i .n (.pan (.l 0))
abbrev DA:RI:=.i .l (.mv (.v 15))
abbrev Hw:RI:=.i .l (.load false 1 (.v 6))
abbrev OB:RI:=.i .l (.bin (.int .i64) .eql (.v 6) (.c (.int .i64 5)))
abbrev Dj:RI:=.i .l (.bin (.int .i64) .eql (.v 4) (.c (.int .i64 4)))
abbrev SI:RI:=.i .l (.bin (.int .i64) .add (.v 7) (.c (.int .i64 1)))
abbrev Nl:RI:=.i .l (.bin (.int .i64) .add (.v 5) (.c (.int .i64 1)))
abbrev Rp:RI:=.i (.v 11) (.alloc [(.int .i64 0),(.int .i64 0),.nils])
abbrev Pv:RI:=.i .l (.ixa (some 109) none (.l 0) (.c (.int .i64 2)))
abbrev Jh:RI:=.i .l (.load true 4 (.v 6))
abbrev GL:RI:=.i .l (.load true 3 (.v 8))
abbrev IY:RI:=.i .l (.load true 3 (.v 7))
abbrev G4:RI:=.i .l (.load true 1 (.v 1))
abbrev Ho:RI:=.i .l (.load true 1 (.l 0))
abbrev R8:RI:=.g (.l 5) true .l (.ixa (some 4) none (.l 1) (.l 0))
abbrev Pu:RI:=.i .l (.call (.c (.fn 145 [] [])) [(.l 1),(.l 0)])
abbrev SS:RI:=.i .l (.call (.c (.fn 138 [] [])) [(.l 1),(.l 0)])
abbrev O5:RI:=.i .l (.call (.c (.fn 128 [] [])) [(.l 1),(.l 0)])
abbrev Nx:RI:=.i .l (.call (.c (.fn 114 [] [])) [(.l 8),(.l 0)])
abbrev Ny:RI:=.i .l (.call (.c (.fn 114 [] [])) [(.l 4),(.l 0)])
abbrev Oy:RI:=.i .l (.call (.c (.fn 107 [] [])) [(.l 1),(.l 0)])
abbrev Py:RI:=.i .l (.call (.c (.fn 100 [] [])) [(.l 1),(.l 0)])
abbrev Qc:RI:=.i (.v 6) (.pick (.l 3) (.l 0) (.c (.bool false)))
abbrev OI:RI:=.i (.v 5) (.pick (.l 2) (.l 0) (.c (.bool false)))
abbrev Rb:RI:=.i (.v 12) (.bin (.int .i64) .lss (.v 11) (.v 10))
abbrev NZ:RI:=.i .l (.call (.c (.fn 99 [] [])) [(.l 4),(.l 0)])
abbrev RM:RI:=.i .l (.call (.c (.fn 98 [] [])) [(.l 1),(.l 0)])
abbrev ST:RI:=.i .l (.call (.c (.fn 97 [] [])) [(.l 4),(.l 0)])
abbrev OM:RI:=.i .l (.call (.c (.fn 79 [] [])) [(.l 1),(.l 0)])
abbrev PM:RI:=.i (.v 6) (.pick (.l 4) (.c (.bool true)) (.l 0))
abbrev N2:RI:=.g (.l 5) false .l (.len false (some 132) (.l 0))
abbrev RH:RI:=.g (.l 2) false .l (.len false (some 109) (.l 0))
abbrev PJ:RI:=.i (.v 8) (.bin (.int .i64) .lss (.v 7) (.v 6))
abbrev O1:RI:=.i (.v 6) (.bin (.int .i64) .lss (.v 5) (.v 4))
abbrev NU:RI:=.i .l (.pick (.l 8) (.l 0) (.c (.bool false)))
abbrev Qf:RI:=.i .l (.pick (.l 11) (.c (.bool true)) (.l 0))
abbrev Nt:RI:=.i (.v 2) (.bin .slice .eql (.l 0) (.c .nils))
abbrev XB:RI:=.g (.l 5) true .l (.len false (some 4) (.l 0))
abbrev Pe:RI:=.i .l (.build [.nils,.nils] [(0,1),(1,1)] [])
abbrev Gx:RI:=.i (.v 20) (.mv (.l 0))
abbrev yZ:RI:=.i (.v 19) (.mv (.l 0))
abbrev wQ:RI:=.i (.v 18) (.mv (.l 0))
abbrev xB:RI:=.i (.v 16) (.mv (.l 0))
abbrev Ha:RI:=.i .l (.fad 4 (.v 21))
abbrev Tm:RI:=.i .l (.call (.c (.fn 165 [] [])) [(.l 0)])
abbrev CU:RI:=.i .l (.call (.c (.fn 120 [] [])) [(.l 0)])
abbrev Qa:RI:=.i .l (.call (.c (.fn 116 [] [])) [(.l 0)])
abbrev PT:RI:=.i .l (.call (.c (.fn 111 [] [])) [(.l 0)])
abbrev Qo:RI:=.i .l (.bin (.int .i64) .sub (.l 2) (.l 0))
abbrev XE:RI:=.i .l (.bin (.int .i64) .mul (.l 1) (.l 0))
abbrev Cv:RI:=.i .l (.bin (.int .i64) .lss (.l 1) (.l 0))
abbrev SE:RI:=.i .l (.bin (.int .i64) .and (.l 1) (.l 0))
abbrev N6:RI:=.i .l (.bin (.int .i64) .add (.l 9) (.l 0))
abbrev Yc:RI:=.i .l (.bin (.int .i64) .add (.l 1) (.l 0))
abbrev Hd:RI:=.i (.v 7) (.mv (.l 1))
abbrev GH:RI:=.i (.v 3) (.mv (.l 1))
abbrev Gy:RI:=.i (.v 2) (.mv (.v 0))
abbrev R4:RI:=.i .l (.ixa (some 137) none (.l 1) (.l 0))
abbrev Q6:RI:=.i .l (.ixa (some 132) none (.l 4) (.l 0))
abbrev QB:RI:=.i .l (.call (.c (.fn 94 [] [])) [(.l 0)])
abbrev O9:RI:=.i .l (.call (.c (.fn 87 [] [])) [(.l 0)])
abbrev OQ:RI:=.i .l (.call (.c (.fn 68 [] [])) [(.l 0)])
abbrev QI:RI:=.i .l (.call (.c (.fn 63 [] [])) [(.l 0)])
abbrev Pp:RI:=.i .l (.call (.c (.fn 48 [] [])) [(.l 0)])
abbrev Qj:RI:=.i .l (.call (.c (.fn 40 [] [])) [(.l 0)])
abbrev Ye:RI:=.i .n (.store 1 (.l 0) (.c (.bool true)))
abbrev IQ:RI:=.i .l (.nilc (.l 10))
abbrev Hc:RI:=.i .l (.fad 3 (.v 7))
abbrev B9:RI:=.i .l (.fad 3 (.v 4))
abbrev IM:RI:=.i .l (.fad 1 (.v 5))
abbrev Iu:RI:=.i .l (.fad 0 (.v 7))
abbrev GU:RI:=.i .l (.fad 0 (.v 5))
abbrev Cz:RI:=.g (.l 6) false .l (.load false 1 (.l 0))
abbrev M9:RI:=.g (.l 4) false .l (.load false 1 (.l 0))
abbrev XG:RI:=.i .l (.ixa (some 4) none (.l 1) (.l 0))
abbrev Nu:RI:=.i .l (.ixa (some 2) none (.l 1) (.l 0))
abbrev P7:RI:=.i .l (.bin .ptr .eql (.l 0) (.c .nilp))
abbrev Qt:RI:=.g (.l 6) true .l (.load false 1 (.l 0))
abbrev OU:RI:=.i .l (.nilc (.l 7))
abbrev IG:RI:=.i (.v 2) (.mv (.c (.int .i64 (-1))))
abbrev SX:RI:=.i (.v 1) (.mv (.c (.int .i64 (-1))))
abbrev NE:RI:=.g (.l 10) false .l (.un .not (.l 0))
abbrev Te:RI:=.i .l (.len false (some 184) (.l 0))
abbrev SF:RI:=.i .l (.call (.c (.fn 39 [] [])) [])
abbrev RY:RI:=.i .l (.app false 137 (.l 9) (.l 0))
abbrev SB:RI:=.i .l (.app false 137 (.l 5) (.l 0))
abbrev Xr:RI:=.i .l (.app false 132 (.l 2) (.l 0))
abbrev Ql:RI:=.i .l (.app false 109 (.l 7) (.l 0))
abbrev OZ:RI:=.i .l (.app false 35 (.l 2) (.l 0))
abbrev QW:RI:=.i (.v 4) (.mv (.c (.int .i64 11)))
abbrev NH:RI:=.i (.v 2) (.mv (.c (.int .i64 11)))
abbrev To:RI:=.g (.l 7) true .l (.un .not (.l 0))
abbrev Sg:RI:=.i .l (.app false 3 (.l 3) (.l 0))
abbrev OS:RI:=.i .l (.app false 3 (.l 2) (.l 0))
abbrev Nf:RI:=.i (.v 5) (.mv (.c (.int .i64 8)))
abbrev xe:RI:=.i (.v 5) (.mv (.c (.int .i64 5)))
abbrev Rr:RI:=.i (.v 4) (.mv (.c (.int .i64 8)))
abbrev Qb:RI:=.i (.v 2) (.mv (.c (.int .i64 8)))
abbrev Nm:RI:=.i (.v 2) (.mv (.c (.int .i64 3)))
abbrev Rf:RI:=.i (.v 2) (.mv (.c (.int .i64 2)))
abbrev Rq:RI:=.i (.v 2) (.mv (.c (.int .i64 1)))
abbrev N3:RI:=.i (.v 0) (.mv (.c (.bool false)))
abbrev No:RI:=.g (.l 6) false .l (.fad 1 (.l 0))
abbrev BU:RI:=.g (.l 4) false .l (.fad 0 (.l 0))
abbrev OD:RI:=.g (.l 3) false .l (.fad 0 (.l 0))
abbrev NO:RI:=.g (.l 2) false .l (.fad 1 (.l 0))
abbrev X6:RI:=.i .l (.app true 4 (.l 1) (.l 0))
abbrev QM:RI:=.i (.v 7) (.call (.l 4) [(.l 0)])
abbrev Pi:RI:=.i (.v 5) (.mv (.c (.bool true)))
abbrev Yx:RI:=.g (.l 3) true .l (.fad 1 (.l 0))
abbrev R5:RI:=.g (.l 3) false .l (.nilc (.l 1))
abbrev B8:RI:=.g (.l 3) false .l (.nilc (.l 0))
abbrev Sw:RI:=.g (.l 2) false .l (.nilc (.l 0))
abbrev Sj:RI:=.g (.l 1) true .l (.fad 1 (.v 2))
abbrev IC:RI:=.i .l (.conv (.int .u64) (.l 0))
abbrev I2:RI:=.g (.l 3) false .l (.mv (.l 0))
abbrev SG:RI:=.g (.l 2) false .l (.mv (.v 1))
abbrev BE:RI:=.g (.l 2) false .l (.mv (.v 0))
abbrev Oj:RI:=.g (.l 0) false .l (.mv (.v 0))
abbrev Nk:RI:=.i .n (.store 6 (.v 6) (.l 0))
abbrev Ph:RI:=.i .n (.store 6 (.v 5) (.l 0))
abbrev O7:RI:=.i .n (.store 5 (.l 0) (.l 3))
abbrev QS:RI:=.i .n (.store 4 (.v 6) (.l 0))
abbrev Sc:RI:=.i .n (.store 4 (.v 4) (.l 0))
abbrev Ru:RI:=.i .n (.store 3 (.v 9) (.l 1))
abbrev Qn:RI:=.i .n (.store 3 (.v 9) (.l 0))
abbrev Q4:RI:=.i .n (.store 3 (.v 8) (.l 0))
abbrev XF:RI:=.i .n (.store 3 (.v 4) (.l 2))
abbrev Oh:RI:=.i .n (.store 3 (.v 1) (.l 1))
abbrev Sp:RI:=.i .n (.store 2 (.v 3) (.l 0))
abbrev PA:RI:=.i .n (.store 1 (.l 0) (.l 3))
abbrev Tn:RI:=.g (.l 4) true .l (.mv (.v 1))
abbrev Rd:RI:=.g (.l 0) true .l (.mv (.v 6))
abbrev OE:RI:=.g (.l 0) true .l (.mv (.v 5))
abbrev Hk:RI:=.g (.l 0) true .l (.mv (.v 2))
abbrev jP:RS:=.ops [fx,ZG,br,bY,kY,dM]
abbrev d9:RS:=.ops [ur]
abbrev g8:RS:=.ops [kI]
abbrev iC:RS:=.ops [uk]
abbrev R7:RS:=.ops [ay,ay,bg,bI,ai,(.i .l (.load true 6 (.v 2))),VV,(.ck [⟨none,false,1,(.l 3),(.l 2)⟩]),Xr,OU,bI,fU]
abbrev qG:RS:=.ops [bm,oF,cV]
abbrev n9:RS:=.ops [bm,dH]
abbrev sW:RS:=.ops [bA,oF,dB]
abbrev lO:RS:=.ops [nL]
abbrev HZ:RS:=.ops [fx,Cl,Dh,br,bY,kY,dM]
abbrev yz:RS:=.ops [bT,oF,dw]
abbrev SY:RS:=.ops [bk,jJ,aV,pT,Kf,rZ,aV,yy,D5,rZ,aV,yy,YT,RJ]
abbrev Qg:RS:=.ops [bk,pZ,aV,Dt,RN,Q2,Yx,QH,XB,Ty,PS,dH]
abbrev wK:RS:=.ops [bA,cV]
abbrev qD:RS:=.ops [Lg]
abbrev RE:RS:=.ops [ay,ay,bg,bX,ai,YS,X6,xz,bX,fU]
abbrev tY:RS:=.ops [XK]
abbrev oe:RS:=.ops [jF]
abbrev Ct:RS:=.ops [Yl,nZ]
abbrev Ox:RS:=.ops [ay,jL,ay,jL,sK,uU,XF,kS]
abbrev Bu:RS:=.ops [Ai,uk]
abbrev Dm:RS:=.ops [nL,jF]
abbrev Rs:RS:=.ops [ay,bg,dW,ai,gc,oN,dW,fU]
abbrev N7:RS:=.ops [ay,bg,bX,ai,IB,gc,iS,uk]
abbrev RG:RS:=.ops [ay,bg,bI,ai,ui,gc,cV,nL]
abbrev Nd:RS:=.ops [fx,td,Dh,br,bY,kY,dM]
abbrev yd:RS:=.ops [X0]
abbrev xO:RS:=.ops [DC]
abbrev yM:RS:=.ops [yG]
abbrev OV:RS:=.ops [ay,bg,bX,ai,Bf,Xl,XP]
abbrev Hz:RS:=.ops [ay,HN,cV]
abbrev P4:RS:=.ops [ay,bg,bX,ai,bk,XG,Ye]
abbrev Sk:RS:=.ops [(.i (.v 2) (.box 6 (.v 1))),kI,nL]
abbrev Iw:RS:=.ops [dQ,oF,dM]
abbrev N8:RS:=.ops [ay,qc,ai,II,fC,IF]
abbrev Q8:RS:=.ops [ay,qc,ai,Ja,fC,IF]
abbrev RP:RS:=.ops [bm,jU,ai,qh,dW,fU]
abbrev Rt:RS:=.ops [qt,(.i (.v 4) (.box 3 (.v 2)))]
abbrev BS:RS:=.ops [YP]
abbrev IP:RS:=.ops [H8,kI]
abbrev C4:RS:=.ops [X9]
abbrev BW:RS:=.ops [XX]
abbrev OK:RS:=.ops [ay,bN,Yo,DB,fV]
abbrev Jj:RS:=.ops [YK,dE]
abbrev BJ:RS:=.ops [Xx]
abbrev Gj:RS:=.ops [Ai,ur]
abbrev Db:RS:=.ops [zZ]
abbrev Tz:RS:=.ops [(.i (.v 3) (.box 4 (.v 1)))]
abbrev Po:RS:=.ops [bk,bN,Yc,cV]
abbrev Pz:RS:=.ops [bk,bN,XE,cV]
abbrev Sy:RS:=.ops [bk,bN,IA,cV]
abbrev dT:RO:=.bin (.int .i64) .neq (.l 0) (.c (.int .i64 0))
abbrev wG:RO:=.alloc [(.int .i64 0),(.int .i64 0),(.int .i64 0),(.int .i64 0),(.int .i64 0),(.int .i64 0)]
abbrev qJ:RO:=.alloc [(.int .i64 0),(.int .i64 0),.nils]
abbrev n8:RO:=.bin (.int .i64) .lss (.l 2) (.l 0)
abbrev f9:RO:=.load false 1 (.l 0)
abbrev yV:RO:=.bin (.int .i64) .neq (.l 0) (.c (.int .i64 4))
abbrev yF:RO:=.bin (.int .i64) .eql (.l 0) (.c (.int .i64 0))
abbrev eD:RO:=.mv (.l 0)
abbrev CO:RO:=.alloc [(.int .i64 0),(.int .i64 0),(.int .i64 0),.nils]
abbrev vN:RO:=.pick (.l 3) (.l 0) (.c (.bool false))
abbrev wZ:RO:=.alloc [(.int .i64 0),(.int .i64 0)]
abbrev Bp:RO:=.bin (.int .i64) .geq (.l 0) (.c (.int .i64 0))
abbrev wE:RO:=.bin (.int .i64) .lss (.l 3) (.l 0)
abbrev mT:RO:=.un .not (.l 0)
abbrev vP:RO:=.pick (.l 2) (.l 0) (.c (.bool false))
abbrev IE:RO:=.bin (.int .i64) .eql (.l 0) (.c (.int .i64 20))
abbrev Hq:RO:=.bin (.int .i64) .lss (.l 0) (.c (.int .i64 4))
abbrev BY:RO:=.bin (.int .i64) .lss (.l 0) (.c (.int .i64 0))
abbrev Hf:RO:=.bin (.int .i64) .eql (.l 0) (.c (.int .i64 4))
abbrev HY:RO:=.call (.c (.fn 158 [] [])) [(.l 1),(.l 0)]
abbrev tS:RO:=.len false (some 109) (.l 0)
abbrev GA:RO:=.pick (.l 5) (.l 0) (.c (.bool false))
abbrev IZ:RO:=.pick (.l 7) (.c (.bool true)) (.l 0)
abbrev qB:RO:=.pick (.l 4) (.c (.bool true)) (.l 0)
abbrev Je:RO:=.pick (.l 3) (.c (.bool true)) (.l 0)
abbrev I6:RO:=.pick (.l 2) (.c (.bool true)) (.l 0)
abbrev Iq:RO:=.bin (.int .i64) .lss (.l 1) (.l 0)
abbrev lT:RO:=.mv (.l 1)
abbrev yS:RO:=.mv (.c (.int .i64 2))
abbrev nV:RO:=.fad 0 (.l 0)
abbrev Tx:RO:=.bin (.int .i64) .gtr (.l 0) (.c (.int .i64 30))
abbrev QX:RO:=.bin (.int .i64) .neq (.l 0) (.c (.int .i64 1))
abbrev Pw:RO:=.bin (.int .i64) .gtr (.l 0) (.c (.int .i64 0))
abbrev Qp:RO:=.bin (.int .i64) .eql (.l 0) (.c (.int .i64 3))
abbrev PP:RO:=.bin (.int .i64) .eql (.l 0) (.c (.int .i64 2))
abbrev tC:RO:=.mv (.l 2)
abbrev yh:RO:=.mv (.c (.int .i64 1))
abbrev F9:RO:=.mv (.c (.int .i64 0))
abbrev Iy:RO:=.alloc [(.int .i64 0)]
abbrev NX:RO:=.call (.c (.fn 112 [] [])) [(.l 1),(.l 0)]
abbrev GP:RO:=.pick (.l 8) (.c (.bool true)) (.l 0)
abbrev Ta:RO:=.pick (.l 5) (.c (.bool true)) (.l 0)
abbrev B3:RO:=.box 3 (.v 3)
abbrev Ov:RO:=.ixa none (some (4,1)) (.l 0) (.l 2)
abbrev R0:RO:=.call (.c (.fn 164 [] [])) [(.l 0)]
abbrev NF:RO:=.call (.c (.fn 143 [] [])) [(.l 0)]
abbrev Of:RO:=.bin (.int .i64) .neq (.l 4) (.l 0)
abbrev SD:RO:=.bin (.int .i64) .neq (.l 1) (.l 0)
abbrev Dx:RO:=.bin (.int .i64) .gtr (.l 1) (.l 0)
abbrev Qd:RO:=.bin (.int .i64) .eql (.l 2) (.l 0)
abbrev PV:RO:=.bin (.int .i64) .eql (.l 1) (.l 0)
def Nn (ops:Array Oper) (M:Array Nat):Nat→List Nat→List Nat→List (Nat×List Nat)
 | 0,_,_=>[]
 | n+1,rest,done=>
   let rdy:=rest.filter fun i=>rest.all fun j=>j==i || !kw M j i
   match((rdy.find? fun i=>eP (ops.getD i default)).or (rdy.find? fun i=>match(ops.getD i default).op with | .alloc _=>false | _=>true)).or rdy.head? with
   | none=>[]
   | some i=>(i,if eP (ops.getD i default)then[]else done.filter fun j=>jS (ops.getD j default) && !kw M j i)::Nn ops M n (rest.filter (· != i)) (done++[i])
def Ki (ops:Array Oper) (M:Array Nat) (pl:List (Nat×List Nat)):List (Nat×List Nat):=match pl.reverse with
 | (y,[])::(x,[])::r=>if gi (ops.getD x default) && gi (ops.getD y default) && !kw M x y then r.reverse++[(x,[]),(y,[x])]else pl
 | _=>pl
def Kq (ops:Array Oper) (M:Array Nat):Nat→List Nat→List Nat→List (Nat×List Nat)
 | 0,_,_=>[]
 | n+1,rest,done=>
   let rdy:=rest.filter fun i=>rest.all fun j=>j==i || !kw M j i
   match(((rdy.find? fun i=>eP (ops.getD i default)).or (rdy.find? fun i=>match(ops.getD i default).op with | .buildSlice .. =>true | _=>false)).or (rdy.find? fun i=>match(ops.getD i default).op with | .alloc _=>false | _=>true)).or rdy.head? with
   | none=>[]
   | some i=>(i,if eP (ops.getD i default)then[]else done.filter fun j=>jS (ops.getD j default) && !kw M j i)::Kq ops M n (rest.filter (· != i)) (done++[i])
def PF (ops:Array Oper):List (Nat×List Nat):=Ki ops (Region.before ops) (Nn ops (Region.before ops) ops.size (List.range ops.size) [])
def LH (ops:Array Oper):List (Nat×List Nat):=Ki ops (Region.before ops) (Kq ops (Region.before ops) ops.size (List.range ops.size) [])
def ZU (mu:TypeId→Bool) (ops:Array Oper):Bool:=ops.any fun o=>match o.op with | .buildSlice ty _ _=> !mu ty && mu (ty+1000000) | _=>false
def nG (id:Nat):Code→Option (Array Oper)
 | .region i ops _=>if i=id then some ops else none
 | .seq a b=>(nG id a).or (nG id b)
 | .cond _ a b=>(nG id a).or (nG id b)
 | .block _ b=>nG id b
 | .loop b=>nG id b
 | _=>none
def aaa (fn:Func):Nat:=fn.ntmps
def qC (P:Program) (mu:FuncId→TypeId→Bool) (ext:FuncId→Option (List AV→AH→Option ((AV ⊕ AV)×AH))) (use pure:List FuncId):Pol where
 ext:=ext
 mu:=mu
 nv g:=match P.funcs[g]? with
  | some fn=>aaa fn
  | none=>0
 plan g id:=match((P.funcs[g]?).bind (·.body)).bind (nG id)with
  | some ops=>if ZU (mu g) ops then LH ops else PF ops
  | none=>[]
 use:=use.contains
 pure:=pure.contains
 kp g d:=if 3000000≤d then !mu g (d - 3000000) && mu g (d - 3000000+1000000)else if 1000000≤d then(eH P (d - 1000000)).isSome else match P.funcs[g]? with
  | some fn=>fn.results.toList.any fun r=>match r with | .cell i _=>i==d | _=>false
  | none=>false
def VT (P:Program):Bool:=(List.range P.types.size).all fun t=>(match P.info? t with
 | some i=>decide (i.bytes≤100000) && (match i.zero with | some v=>v.cells.size==i.size | none=>true)
 | none=>true) && (match P.underlying t with
 | some (.slice e)=>decide (0<P.cellsOf e)
 | _=>true)
def sD (P:Program) (po:Pol) (use:List FuncId):Bool:=use.all fun g=>match P.funcs[g]? with
 | some fn=>(match fn.body with | some c=>dP (po.plan g) (po.kp g) c | none=>true) && !(fn.name== "runtime.NumGoroutine")
 | none=>true
theorem VL {P:Program} (h:VT P=true):pO P:=by
 unfold VT at h
 rw[List.all_eq_true]at h
 refine⟨fun t i v hlt h1 h2=> ?_,fun t i hlt h1=> ?_,fun t e hlt he=> ?_⟩
 ·have:=h t (List.mem_range.2 hlt)
  simp only[h1,h2,Bool.and_eq_true,beq_iff_eq]at this
  exact this.1.2
 ·have:=h t (List.mem_range.2 hlt)
  simp only[h1,Bool.and_eq_true,decide_eq_true_eq]at this
  exact this.1.1
 ·have:=h t (List.mem_range.2 hlt)
  simp only[he,Bool.and_eq_true,decide_eq_true_eq]at this
  exact this.2
theorem Ya {P:Program} {mu:FuncId→TypeId→Bool} {ext:FuncId→Option (List AV→AH→Option ((AV ⊕ AV)×AH))} {use pure:List FuncId} (hty:pO P) (hm:P.follows .mixedOrders=true)
  (hf:sD P (qC P mu ext use pure) use=true) (hx:∀ g F,ext g=some F→∃ fn,P.funcs[g]? =some fn∧(fn.body.isNone=false∧(fn.name== "runtime.NumGoroutine")=false)∧∀ args h r,F args h=some r→AC P g args h r):POK P (qC P mu ext use pure):=by
 unfold sD at hf
 rw[List.all_eq_true]at hf
 have hmem:∀ g,(qC P mu ext use pure).use g=true→g∈use:=fun g hg=>by simpa[qC]using hg
 refine⟨hty,fun g fn h1 h2=> ?_,hx,fun g fn c h1 h2 h3=> ?_,hm,fun g e h1 he=> ?_,fun g ty he=> ?_⟩
 ·have:=hf g (hmem g h2)
  rw[h1]at this
  simp only[Bool.and_eq_true]at this
  simpa using this.2
 ·have:=hf g (hmem g h3)
  rw[h1]at this
  simp only[h2,Bool.and_eq_true]at this
  exact this.1
 ·simp only[qC]at he
  rw[if_neg (by omega),if_pos (Nat.le_add_right _ _),Nat.add_sub_cancel_left]at he
  exact he
 ·simp only[qC]at he ⊢
  rw[if_pos (by omega),show 1000000+(ty+2000000) - 3000000=ty by omega,Bool.and_eq_true,Bool.not_eq_true']at he
  exact he
abbrev zP:=FuncId→List AV→AH→Option ((AV ⊕ AV)×AH)
abbrev jN:=Option (AEx×List AV×AH)
section
variable (C:zP) (nv:Nat)
noncomputable def rV (d:RD) (is:List RI) (k:List RK) (V L:List AV) (h:AH):Option AV→jN
 | some v=>aC C nv (.ops is::k) (iP V v d) (jA L v d) h
 | none=>none
noncomputable def rH (is:List RI) (k:List RK) (V L:List AV):Option AH→jN
 | some h=>aC C nv (.ops is::k) V L h
 | none=>none
noncomputable def rS (d:RD) (is:List RI) (k:List RK) (V L:List AV):Option (AV×AH)→jN
 | some (v,h)=>aC C nv (.ops is::k) (iP V v d) (jA L v d) h
 | none=>none
noncomputable def rC (d:RD) (is:List RI) (k:List RK) (V L:List AV):Option ((AV ⊕ AV)×AH)→jN
 | some (.inl v,h)=>aC C nv (.ops is::k) (iP V v d) (jA L v d) h
 | some (.inr v,h)=>some (.panic v,V,h)
 | none=>none
noncomputable def rF (d:RD) (is:List RI) (k:List RK) (V L:List AV) (h:AH):Option (FuncId×List AV)→jN
 | some (g,args)=>rC C nv d is k V L (C g args h)
 | none=>none
noncomputable def rG (d:RD) (o:RO) (is:List RI) (k:List RK) (V L:List AV) (h:AH):Option Bool→jN
 | some true=>aC C nv (.ops (.i d o::is)::k) V L h
 | some false=>aC C nv (.ops is::k) (iP V (.tup []) d) (jA L (.tup []) d) h
 | none=>none
noncomputable def rB (x y l:List RS) (k:List RK) (V:List AV) (h:AH):AV→jN
 | .bool b=>if b then aC C nv (.ss x:: .ss l::k) V [] h else aC C nv (.ss y:: .ss l::k) V [] h
 | _=>none
noncomputable def rE (V L:List AV) (h:AH):Option (List RK)→jN
 | some k=>aC C nv k V L h
 | none=>none
end
section
variable {C:zP} {nv:Nat} {k:List RK} {V L:List AV} {h:AH} {d:RD} {is:List RI}
theorem WD:aC C nv [] V L h=some (.ret,V,h):=by rw[aC]
theorem EH:aC C nv (.ss []::k) V L h=aC C nv k V L h:=by rw[aC]
theorem Q1 {l:List RS}:aC C nv (.ss (.ops is::l)::k) V L h=aC C nv (.ops is:: .ss l::k) V [] h:=by rw[aC]
theorem Tl {a:Arg} {x y l:List RS}:aC C nv (.ss (.cond a x y::l)::k) V L h=rB C nv x y l k V h (arg V [] a):=by
 rw[aC]
 cases arg V [] a<;>rfl
theorem B5 {id:Nat} {b l:List RS}:aC C nv (.ss (.block id b::l)::k) V L h=aC C nv (.ss b:: .blk id:: .ss l::k) V L h:=by rw[aC]
theorem HF {b l:List RS}:aC C nv (.ss (.loop b::l)::k) V L h=aC C nv (.lp b:: .ss l::k) V L h:=by conv=>lhs;rw[aC]
theorem RA {id:Nat} {l:List RS}:aC C nv (.ss (.exit id::l)::k) V L h=rE C nv V L h (gJ id k):=by
 rw[aC]
 cases gJ id k<;>rfl
theorem Xf {l:List RS}:aC C nv (.ss (.ret::l)::k) V L h=some (.ret,V,h):=by rw[aC]
theorem V7 {id:Nat}:aC C nv (.blk id::k) V L h=aC C nv k V L h:=by rw[aC]
theorem aak {b:List RS}:aC C nv (.lp b::k) V L h=aC C nv (.ss b:: .lp b::k) (aa nv V) L h:=by rw[aC]
theorem sR:aC C nv (.ops []::k) V L h=aC C nv k V [] h:=by rw[aC]
theorem Zt {l:List RCk} (hc:zC V L h l):aC C nv (.ops (.ck l::is)::k) V L h=aC C nv (.ops is::k) V L h:=by rw[aC];simp[hc]
theorem gZ {o:RO} (hn:bp V L o=none) (hp:Fc V L o=none):aC C nv (.ops (.i d o::is)::k) V L h=rS C nv d is k V L (ci V L h o):=by
 rw[aC]
 simp only[hn,hp]
 rcases ci V L h o with _ | ⟨v,h'⟩<;>rfl
theorem Tj {x:Arg} {q:TypeId} {v:AV} (hx:arg V L x= .iface q v):aC C nv (.ops (.i d (.pan x)::is)::k) V L h=some (.panic (.iface q v),V,h):=by
 rw[aC]
 simp[Fc,hx]
theorem PI {K:List Item}:aC C nv (.halt K::k) V L h=some (.halt K,V,h):=by rw[aC]
theorem HD {f:Arg} {args:List Arg}:aC C nv (.ops (.i d (.call f args)::is)::k) V L h=rF C nv d is k V L h (bp V L (.call f args)):=by
 rw[aC]
 simp only[Fc]
 rcases hc:bp V L (.call f args)with _ | ⟨g,aS⟩
 ·rfl
 ·simp only[rF]
  rcases C g aS h with _ | ⟨_ | _,h'⟩<;>rfl
theorem KJ {g:FuncId} {args:List Arg}:aC C nv (.ops (.i d (.call (.c (.fn g [] [])) args)::is)::k) V L h=rC C nv d is k V L (C g (args.map (arg V L)) h):=by
 rw[HD]
 simp[bp,arg,rF]
theorem r_g {a:Arg} {w:Bool} {o:RO}:aC C nv (.ops (.g a w d o::is)::k) V L h=rG C nv d o is k V L h (qN V L a w):=by
 rw[aC]
 rcases qN V L a w with _ | ⟨_ | _⟩
 ·rfl
 ·rfl
 ·simp only[rG]
  conv=>rhs;rw[aC]
theorem gH {x:Option AV}:rS C nv d is k V L (x.map fun v=>(v,h))=rV C nv d is k V L h x:=by cases x<;>rfl
theorem Ze {x:Arg}:aC C nv (.ops (.i d (.mv x)::is)::k) V L h=aC C nv (.ops is::k) (iP V (arg V L x) d) (jA L (arg V L x) d) h:=by rw[gZ rfl rfl];rfl
theorem Oo {c x y:Arg}:aC C nv (.ops (.i d (.pick c x y)::is)::k) V L h=rV C nv d is k V L h (Ro (arg V L c) (arg V L x) (arg V L y)):=by rw[gZ rfl rfl];exact gH
theorem Lh {z:List AV} {pl:List (Nat×Nat)} {ps:List (Nat×Arg)}:aC C nv (.ops (.i d (.build z pl ps)::is)::k) V L h=rV C nv d is k V L h ((jX pl z (ps.map fun q=>(q.1,arg V L q.2))).map .agg):=by
 rw[gZ rfl rfl]
 simp only[ci]
 cases jX pl z (ps.map fun q=>(q.1,arg V L q.2))<;>rfl
theorem RT {x:Arg}:aC C nv (.ops (.i d (.nilc x)::is)::k) V L h=rV C nv d is k V L h (DE (arg V L x)):=by rw[gZ rfl rfl];exact gH
theorem WI {kd:Kd} {op:BinOp} {x y:Arg}:aC C nv (.ops (.i d (.bin kd op x y)::is)::k) V L h=rV C nv d is k V L h (bO kd op (arg V L x) (arg V L y)):=by rw[gZ rfl rfl];exact gH
theorem NA {kd:Kd} {ks:Option (List Kd)} {cy:Bool} {op:BinOp} {x y:Arg}:aC C nv (.ops (.i d (.binG kd ks cy op x y)::is)::k) V L h=rV C nv d is k V L h (ma kd ks cy op (arg V L x) (arg V L y)):=by rw[gZ rfl rfl];exact gH
theorem Zy {op:UnOp} {x:Arg}:aC C nv (.ops (.i d (.un op x)::is)::k) V L h=rV C nv d is k V L h (unA op (arg V L x)):=by rw[gZ rfl rfl];exact gH
theorem Ss {kd:Kd} {x:Arg}:aC C nv (.ops (.i d (.conv kd x)::is)::k) V L h=rV C nv d is k V L h (cvA kd (arg V L x)):=by rw[gZ rfl rfl];exact gH
theorem V9 {t:TypeId} {x:Arg}:aC C nv (.ops (.i d (.mki t x)::is)::k) V L h=rV C nv d is k V L h (Un t (arg V L x)):=by rw[gZ rfl rfl];exact gH
theorem W2 {g:FuncId} {f c:List Arg}:aC C nv (.ops (.i d (.mkf g f c)::is)::k) V L h=rV C nv d is k V L h (some (.fn g (f.map (arg V L)) (c.map (arg V L)))):=by rw[gZ rfl rfl];rfl
theorem Xg {s:Bool} {e:Option TypeId} {x:Arg} {lo hi:Option Arg}:aC C nv (.ops (.i d (.slc s e x lo hi)::is)::k) V L h=rV C nv d is k V L h (if ew s e (arg V L x)then mX (arg V L x) (lo.map (arg V L)) (hi.map (arg V L))else none):=by
 rw[gZ rfl rfl]
 simp only[ci]
 split
 ·exact gH
 ·rfl
theorem Wt {off:Nat} {x:Arg}:aC C nv (.ops (.i d (.fad off x)::is)::k) V L h=rV C nv d is k V L h (aP off (arg V L x)):=by rw[gZ rfl rfl];exact gH
theorem W0 {agg:Bool} {n off:Nat} {x:Arg}:aC C nv (.ops (.i d (.fld agg n off x)::is)::k) V L h=rV C nv d is k V L h (UG agg n off (arg V L x)):=by rw[gZ rfl rfl];exact gH
theorem Xc {e:Option TypeId} {ar:Option (Nat×Nat)} {x q:Arg}:aC C nv (.ops (.i d (.ixa e ar x q)::is)::k) V L h=rV C nv d is k V L h (bL e ar (arg V L x) (arg V L q)):=by rw[gZ rfl rfl];exact gH
theorem Y1 {s:Bool} {ar:Option (Nat×Nat×Bool)} {x q:Arg}:aC C nv (.ops (.i d (.ix s ar x q)::is)::k) V L h=rV C nv d is k V L h (ixR s ar (arg V L x) (arg V L q)):=by rw[gZ rfl rfl];exact gH
theorem Xi {t:TypeId} {ok:Bool} {x:Arg}:aC C nv (.ops (.i d (.tas t ok x)::is)::k) V L h=rV C nv d is k V L h (LL t ok (arg V L x)):=by rw[gZ rfl rfl];exact gH
theorem Xk {x:Arg} {i:Nat}:aC C nv (.ops (.i d (.ext x i)::is)::k) V L h=rV C nv d is k V L h (XU (arg V L x) i):=by rw[gZ rfl rfl];exact gH
theorem Ws {s:Bool} {e:Option TypeId} {x:Arg}:aC C nv (.ops (.i d (.len s e x)::is)::k) V L h=rV C nv d is k V L h (if ew s e (arg V L x)then(eW (arg V L x)).map fun(n:Nat)=>i64 n else none):=by
 rw[gZ rfl rfl]
 simp only[ci]
 split
 ·cases eW (arg V L x)<;>rfl
 ·rfl
theorem JA {z:List AV}:aC C nv (.ops (.i d (.alloc z)::is)::k) V L h=aC C nv (.ops is::k) (iP V (.ptr h.n 0 0) d) (jA L (.ptr h.n 0 0) d) (h.push [z]):=by rw[gZ rfl rfl];rfl
theorem Km {n:Nat} {x:Arg} (h1:(arg V L x).cells.all AV.one=true) (h2:(arg V L x).cells.length=n):aC C nv (.ops (.i d (.box n x)::is)::k) V L h=aC C nv (.ops is::k) (iP V (.ptr h.n 0 0) d) (jA L (.ptr h.n 0 0) d) (h.push [(arg V L x).cells]):=by
 rw[gZ rfl rfl]
 simp[ci,h1,h2,rS]
theorem WX {e:TypeId} {z:List AV} {n len:Nat} {ps:List (Nat×Arg)}:aC C nv (.ops (.i d (.bsl false e z n len ps)::is)::k) V L h=rS C nv d is k V L ((jT n (η len z) (ps.map fun q=>(q.1,arg V L q.2))).map fun es=>(.isl (some h.ids) e es,h.fresh len)):=by rw[gZ rfl rfl];rfl
theorem WH {e:TypeId} {z:List AV} {n len:Nat} {ps:List (Nat×Arg)}:aC C nv (.ops (.i d (.bsn e z n len ps)::is)::k) V L h=rS C nv d is k V L ((jT n (η len z) (ps.map fun q=>(q.1,arg V L q.2))).map fun es=>(.isl none e es,h)):=by rw[gZ rfl rfl];rfl
theorem Oe {e:TypeId} {z:List AV} {n len:Nat} {ps:List (Nat×Arg)}:aC C nv (.ops (.i d (.bsl true e z n len ps)::is)::k) V L h=rS C nv d is k V L ((jT n (η len z) (ps.map fun q=>(q.1,arg V L q.2))).map fun es=>(.msl h.n 0 len e,h.push es)):=by rw[gZ rfl rfl];rfl
theorem Nz {agg:Bool} {n:Nat} {x:Arg}:aC C nv (.ops (.i d (.load agg n x)::is)::k) V L h=rV C nv d is k V L h (aR agg n h (arg V L x)):=by rw[gZ rfl rfl];exact gH
theorem K8 {n:Nat} {a x:Arg}:aC C nv (.ops (.i .n (.store n a x)::is)::k) V L h=rH C nv is k V L (aZ n h (arg V L a) (arg V L x)):=by
 rw[gZ rfl rfl]
 simp only[ci]
 cases aZ n h (arg V L a) (arg V L x)<;>rfl
theorem Wr {e:TypeId} {z:List AV} {l c:Arg}:aC C nv (.ops (.i d (.mks e z l c)::is)::k) V L h=rS C nv d is k V L (Yv e z (arg V L l) (arg V L c) h):=by rw[gZ rfl rfl];rfl
theorem Wg {mu:Bool} {e:TypeId} {x y:Arg}:aC C nv (.ops (.i d (.app mu e x y)::is)::k) V L h=rS C nv d is k V L (aQ mu e (arg V L x) (arg V L y) h):=by rw[gZ rfl rfl];rfl
theorem PZ {mu:Bool} {e:TypeId} {x y:Arg}:aC C nv (.ops (.i d (.apps mu e x y)::is)::k) V L h=rS C nv d is k V L (qW mu e (arg V L x) (arg V L y) h):=by rw[gZ rfl rfl];rfl
theorem NI {t:TypeId} {n:Nat} {x:Arg} (h1:(arg V L x).cells.all AV.one=true) (h2:(arg V L x).cells.length=n):aC C nv (.ops (.i d (.tbox t n x)::is)::k) V L h=aC C nv (.ops is::k) (iP V (.tptr t h.n) d) (jA L (.tptr t h.n) d) (h.push [(arg V L x).cells]):=by
 rw[gZ rfl rfl]
 simp[ci,h1,h2,rS]
theorem FM {t:TypeId} {z:List AV}:aC C nv (.ops (.i d (.talloc t z)::is)::k) V L h=aC C nv (.ops is::k) (iP V (.tptr t h.n) d) (jA L (.tptr t h.n) d) (h.push [z]):=by rw[gZ rfl rfl];rfl
theorem ZA {mx:Bool} {x y:Arg}:aC C nv (.ops (.i d (.mm mx x y)::is)::k) V L h=rV C nv d is k V L h (mmA mx (arg V L x) (arg V L y)):=by rw[gZ rfl rfl];exact gH
theorem Ld {v:AV}:rV C nv d is k V L h (some v)=aC C nv (.ops is::k) (iP V v d) (jA L v d) h:=rfl
theorem Ll:rH C nv is k V L (some h)=aC C nv (.ops is::k) V L h:=rfl
theorem Kn {v:AV}:rS C nv d is k V L (some (v,h))=aC C nv (.ops is::k) (iP V v d) (jA L v d) h:=rfl
theorem OT {v:AV}:rC C nv d is k V L (some (.inl v,h))=aC C nv (.ops is::k) (iP V v d) (jA L v d) h:=rfl
theorem Fq {v:AV}:rC C nv d is k V L (some (.inr v,h))=some (.panic v,V,h):=rfl
theorem JQ {o:RO}:rG C nv d o is k V L h (some true)=aC C nv (.ops (.i d o::is)::k) V L h:=rfl
theorem FG {o:RO}:rG C nv d o is k V L h (some false)=aC C nv (.ops is::k) (iP V (.tup []) d) (jA L (.tup []) d) h:=rfl
theorem Kl {x y l:List RS} {b:Bool}:rB C nv x y l k V h (.bool b)=if b=true then aC C nv (.ss x:: .ss l::k) V [] h else aC C nv (.ss y:: .ss l::k) V [] h:=rfl
theorem JF:rE C nv V L h (some k)=aC C nv k V L h:=rfl
theorem zM {b:Bool} {x y:AV}:Ro (.bool b) x y=some (if b=true then x else y):=rfl
theorem lK {p:Bool} {rs:List nS} {h0:AH}:cFR p rs h0 (some (.ret,V,h))=cF.cR p h0 h ((fS V h rs).map gh):=rfl
theorem sU {p:Bool} {rs:List nS} {h0:AH} {v:AV}:cFR p rs h0 (some (.panic v,V,h))=fgA p h0 (.inr v,h):=rfl
theorem W9 {j:Nat}:arg V L (.v j)=V.getD j .junk:=rfl
theorem WB {j:Nat}:arg V L (.l j)=L.getD j .junk:=rfl
theorem Xh {a:AV}:arg V L (.c a)=a:=rfl
theorem P1 {v:AV} {j:Nat}:iP V v (.v j)=V.set j v:=rfl
theorem QO {v:AV}:iP V v .l=V:=rfl
theorem Nw {v:AV}:iP V v .n=V:=rfl
theorem QP {v:AV} {j:Nat}:jA L v (.v j)=L:=rfl
theorem QZ {v:AV}:jA L v .l=v::L:=rfl
theorem Rv {v:AV}:jA L v .n=L:=rfl
end
section
variable {C:zP} {nv:Nat} {k:List RK} {V L:List AV} {h h0:AH} {kd:Kd} {q:IntKind}
theorem Xa {a b:Int}:bO kd .add (.int q a) (.int q b)=some (.int q (q.wrap (a+b))):=by simp[bO,oT]
theorem WZ {a b:Int}:bO kd .sub (.int q a) (.int q b)=some (.int q (q.wrap (a - b))):=by simp[bO,oT]
theorem V0 {a b:Int}:bO kd .mul (.int q a) (.int q b)=some (.int q (q.wrap (a*b))):=by simp[bO,oT]
theorem VQ {a b:Int}:bO kd .eql (.int q a) (.int q b)=some (.bool (decide (a=b))):=by simp[bO,oT];rfl
theorem Wa {a b:Int}:bO kd .neq (.int q a) (.int q b)=some (.bool (!decide (a=b))):=by simp[bO,oT];rfl
theorem W5 {a b:Int}:bO kd .lss (.int q a) (.int q b)=some (.bool (decide (a<b))):=by simp[bO,oT]
theorem WN {a b:Int}:bO kd .leq (.int q a) (.int q b)=some (.bool (decide (a≤b))):=by simp[bO,oT]
theorem W3 {a b:Int}:bO kd .gtr (.int q a) (.int q b)=some (.bool (decide (b<a))):=by simp[bO,oT]
theorem V8 {a b:Int}:bO kd .geq (.int q a) (.int q b)=some (.bool (decide (b≤a))):=by simp[bO,oT]
theorem Ww {a b:Int}:bO kd .and (.int q a) (.int q b)=some (.int q (q.wrap (BitVec.ofInt q.bits a &&& BitVec.ofInt q.bits b).toNat)):=by simp[bO,oT]
theorem ZN {a b:Int}:bO kd .or (.int q a) (.int q b)=some (.int q (q.wrap (BitVec.ofInt q.bits a ||| BitVec.ofInt q.bits b).toNat)):=by simp[bO,oT]
theorem FP {a b:Int}:bO kd .andNot (.int q a) (.int q b)=some (.int q (q.wrap (BitVec.ofInt q.bits a &&& ~~~(BitVec.ofInt q.bits b)).toNat)):=by simp[bO,oT]
theorem Qk {a b:List UInt8}:bO kd .eql (.str a) (.str b)=some (.bool (decide (a=b))):=by by_cases hh:a=b<;>simp[bO,hh]
theorem SZ {a b:List UInt8}:bO kd .neq (.str a) (.str b)=some (.bool (!decide (a=b))):=by by_cases hh:a=b<;>simp[bO,hh]
theorem Q3 {a b:Bool}:bO .bool .eql (.bool a) (.bool b)=some (.bool (a==b)):=by simp[bO,eqA]
theorem Rz {a b:Bool}:bO .bool .neq (.bool a) (.bool b)=some (.bool (!(a==b))):=by simp[bO,eqA]
theorem P9 {z:TypeId} {es:List (List AV)} {i:Option Nat}:bO .slice .eql (.isl i z es) .nils=some (.bool false):=by simp[bO,eqA]
theorem zW:bO .slice .eql .nils .nils=some (.bool true):=by simp[bO,eqA]
theorem Kz {b o n:Nat} {z:TypeId}:bO .slice .eql (.msl b o n z) .nils=some (.bool false):=by simp[bO,eqA]
theorem Wb {b:Bool}:unA .not (.bool b)=some (.bool !b):=rfl
theorem WY {a:Int}:unA .neg (.int q a)=some (.int q (q.wrap (0 - a))):=rfl
theorem Wx {p:IntKind} {a:Int}:cvA (.int q) (.int p a)=some (.int q (q.wrap a)):=rfl
theorem WE {s:List UInt8}:cvA .str (.str s)=some (.str s):=rfl
theorem bP {agg:Bool} {n b i off:Nat}:aR agg n h (.ptr b i off)=((h.cell b).bind (·[i]?)).bind fun e=>ldA agg n e off:=rfl
theorem Zz {agg:Bool} {n off:Nat} {e:List AV}:aR agg n h (.ip e off)=ldA agg n e off:=rfl
theorem hD {n off:Nat} {e:List AV}:ldA false n e off=e[off]? :=rfl
theorem bi {n:Nat} {e:List AV} (he:e.length=n):ldA true n e 0=some (.agg e):=by subst he;simp[ldA]
theorem C1 {e el:TypeId} {id:Option Nat} {es:List (List AV)} {i:Nat} {r:List AV} (he:e=el) (hi:es[i]? =some r):bL (some e) none (.isl id el es) (.int q (i:Int))=some (.ip r 0):=by simp[bL,he,hi]
theorem qO {e el:TypeId} {b o n i:Nat} (he:e=el) (hi:i<n):bL (some e) none (.msl b o n el) (.int q (i:Int))=some (.ptr b (o+i) 0):=by simp[bL,he,hi]
theorem VY {b i o off:Nat}:aP off (.ptr b i o)=some (.ptr b i (o+off)):=rfl
theorem Z5 {e:List AV} {o off:Nat}:aP off (.ip e o)=some (.ip e (o+off)):=rfl
theorem Wc {b i o:Nat}:DE (.ptr b i o)=some (.ptr b i o):=rfl
theorem ZD {e:List AV} {o:Nat}:DE (.ip e o)=some (.ip e o):=rfl
theorem Fs:eW .nils=some 0:=rfl
theorem JC {id:Option Nat} {el:TypeId} {es:List (List AV)}:eW (.isl id el es)=some es.length:=rfl
theorem JN {b o n:Nat} {el:TypeId}:eW (.msl b o n el)=some n:=rfl
theorem Kk {s:List UInt8}:eW (.str s)=some s.length:=rfl
theorem AO {s:Bool} {e:TypeId}:ew s (some e) .nils=true:=rfl
theorem mh {s:Bool} {e:TypeId} {id:Option Nat} {es:List (List AV)}:ew s (some e) (.isl id e es)=true:=by simp[ew]
theorem ml {s:Bool} {e:TypeId} {b o n:Nat}:ew s (some e) (.msl b o n e)=true:=by simp[ew]
theorem E8 {e:Option TypeId} {l:List UInt8}:ew true e (.str l)=true:=rfl
theorem bR {b:Nat} {es:Option (List (List AV))}:(h.set b es).cell b=es:=by simp[AH.set]
theorem bu {b j:Nat} {es:Option (List (List AV))} (hj:j≠b):(h.set b es).cell j=h.cell j:=by simp[AH.set,hj]
theorem fI {b:Nat} {es:Option (List (List AV))}:(h.set b es).n=h.n:=rfl
theorem pI {b:Nat} {es:Option (List (List AV))}:(h.set b es).ids=h.ids:=rfl
theorem tA {b:Nat} {es:Option (List (List AV))}:(h.set b es).hw=h.hw:=rfl
theorem ap {es:List (List AV)}:(h.push es).cell h.n=some es:=by simp[AH.push]
theorem gW {es:List (List AV)} {j:Nat} (hj:j≠h.n):(h.push es).cell j=h.cell j:=by simp[AH.push,hj]
theorem bd {es:List (List AV)}:(h.push es).n=h.n+1:=rfl
theorem gM {es:List (List AV)}:(h.push es).ids=h.ids:=rfl
theorem Lb {es:List (List AV)}:(h.push es).hw=h.hw:=rfl
theorem iZ {m:Nat}:(h.fresh m).cell=h.cell:=rfl
theorem By {m:Nat}:(h.fresh m).n=h.n:=rfl
theorem uf {m:Nat}:(h.fresh m).ids=h.ids+1:=rfl
theorem sc {m:Nat}:(h.fresh m).hw h.ids=m:=by simp[AH.fresh]
theorem jM {m j:Nat} (hj:j≠h.ids):(h.fresh m).hw j=h.hw j:=by simp[AH.fresh,hj]
theorem Ah {i m:Nat}:(h.grow i m).cell=h.cell:=rfl
theorem OF {i m:Nat}:(h.grow i m).n=h.n:=rfl
theorem FT {i m:Nat}:(h.grow i m).ids=h.ids:=rfl
theorem KK {i m:Nat}:(h.grow i m).hw i=m:=by simp[AH.grow]
theorem qE {i m j:Nat} (hj:j≠i):(h.grow i m).hw j=h.hw j:=by simp[AH.grow,hj]
def Acc (h0 h:AH) (e:TypeId) (v:AV) (acc:List (List AV)):Prop:=(acc=[]∧v= .nils)∨∃ id,acc≠[]∧h0.ids≤id∧id<h.ids∧h.hw id=acc.length∧v= .isl (some id) e acc
theorem iI (h0 h:AH) (e:TypeId):Acc h0 h e .nils []:= .inl ⟨rfl,rfl⟩
theorem lw {e:TypeId} {v:AV} {acc:List (List AV)} (ha:Acc h0 h e v acc) (g:ab h0 h) {row:List AV} (h1:row.all AV.one=true) (hl:acc.length≤1000000):
  ∃ v' h',aQ false e v (.isl (some h.ids) e [row]) (h.fresh 1)=some (v',h')∧Acc h0 h' e v' (acc++[row])∧ab h0 h'∧h'.cell=h.cell∧h'.n=h.n:=by
 have g1:ab h0 (h.fresh 1):=g.trans (ab.fresh h 1)
 have h1':∀ x,x∈row→x.one=true:=by simpa using h1
 rcases ha with⟨rfl,rfl⟩ | ⟨id,a0,a1,a2,a3,rfl⟩
 ·refine⟨.isl (some (h.ids+1)) e [row],(h.fresh 1).fresh 1,?_,.inr ⟨h.ids+1,by simp,?_,?_,?_,by simp⟩,g1.trans (ab.fresh _ 1),rfl,rfl⟩
  ·simp only[aQ,cE,if_true,Option.bind_some,List.length_singleton,Nat.one_ne_zero,if_false,eS]
   rw[if_pos ⟨by omega,by omega,by simpa using h1'⟩]
   rfl
  ·have:=g.ids;omega
  ·simp[AH.fresh]
  ·simp[AH.fresh]
 ·have hne:id≠h.ids:=by omega
  refine⟨.isl (some id) e (acc++[row]),(h.fresh 1).grow id (acc.length+1),?_,.inr ⟨id,by simp,a1,?_,?_,rfl⟩,g1.grow a1,rfl,rfl⟩
  ·simp only[aQ,cE,if_true,Option.bind_some,List.length_singleton,Nat.one_ne_zero,if_false,eS]
   rw[if_pos ⟨by omega,by omega,by simpa using h1'⟩,jM hne,a3]
   simp only[true_and,hl,if_true]
  ·simp[AH.grow,AH.fresh];omega
  ·simp[AH.grow]
def oo:AV→Bool
 | .bool _ | .int _ _ | .str _ | .nilp | .nils | .nilf | .nili=>true
 | _=>false
theorem UD {v:AV} (h:oo v=true):wkA v=some v:=by cases v<;>simp_all [oo,wkA]
theorem DL:∀ {l:List AV},l.all oo=true→wkL l=some l
 | [],_=>rfl
 | v::l,h=>by
   simp only[List.all_cons,Bool.and_eq_true]at h
   simp[wkL,UD h.1,DL h.2]
theorem kE:∀ {l:List (List AV)},(∀ r∈l,r.all oo=true)→wkR l=some l
 | [],_=>rfl
 | v::l,h=>by simp only[wkR,DL (h v (List.mem_cons_self ..)),kE fun r hr=>h r (List.mem_cons_of_mem _ hr)]
def ge (e:TypeId) (es:List (List AV)):AV:=if es=[]then .nils else .isl none e es
theorem tW {e:TypeId} {v:AV} {acc:List (List AV)} (ha:Acc h0 h e v acc) (hf:∀ r∈acc,r.all oo=true):wkA v=some (ge e acc):=by
 rcases ha with⟨rfl,rfl⟩ | ⟨id,a0,_,a2,a3,rfl⟩
 ·rfl
 ·simp only[wkA,kE hf,Option.map_some,ge,if_neg a0]
structure IsL (e:TypeId) (v:AV) (rows:List (List AV)):Prop where
 len:eW v=some rows.length
 fits:∀ s,ew s (some e) v=true
 ix:∀ (q:IntKind) (i:Nat) row,rows[i]? =some row→bL (some e) none v (.int q (i:Int))=some (.ip row 0)
theorem pF (id:Option Nat) (e:TypeId) (rows:List (List AV)):IsL e (.isl id e rows) rows:=⟨rfl,fun s=>mh,fun q i row h=>C1 rfl h⟩
theorem n7 (e:TypeId):IsL e .nils []:=⟨rfl,fun s=>rfl,fun q i row h=>by simp at h⟩
theorem iL (e:TypeId) (rows:List (List AV)):IsL e (ge e rows) rows:=by
 unfold ge
 split
 ·rename_i h
  subst h
  exact n7 e
 ·exact pF _ _ _
def gB (w:Bool):AV→Option Bool
 | .bool b=>some (if w then b else !b)
 | .tup _=>some false
 | _=>none
theorem S6 {w:Bool} {vs:List AV}:gB w (.tup vs)=some false:=rfl
theorem YB {a:Arg} {w:Bool}:qN V L a w=gB w (arg V L a):=by unfold qN gB;cases arg V L a<;>rfl
theorem KA {b w:Bool}:gB w (.bool b)=some (if w=true then b else !b):=rfl
theorem Wk {i id:Nat}:gJ id (.blk i::k)=if i=id then some k else gJ id k:=rfl
theorem ZS {l:List RS} {id:Nat}:gJ id (.ss l::k)=gJ id k:=rfl
theorem Z3 {l:List RS} {id:Nat}:gJ id (.lp l::k)=gJ id k:=rfl
theorem WW {l:List RI} {id:Nat}:gJ id (.ops l::k)=gJ id k:=rfl
theorem Kv:fS V h []=some []:=rfl
theorem Wd {j:Nat} {rs:List nS}:fS V h (.v j::rs)=(fS V h rs).map fun l=>V.getD j .junk::l:=rfl
theorem EG {agg:Bool} {n j:Nat} {rs:List nS}:fS V h (.cell agg n j::rs)=(aR agg n h (V.getD j .junk)).bind fun v=>(fS V h rs).map fun l=>v::l:=rfl
theorem WU:gh []= .tup []:=rfl
theorem Wp {a:AV}:gh [a]=a:=rfl
theorem WK {a b:AV}:gh [a,b]= .tup [a,b]:=rfl
theorem WG {a b c:AV}:gh [a,b,c]= .tup [a,b,c]:=rfl
theorem NW {a d:AV} {l:List AV}:(a::l).getD 0 d=a:=rfl
theorem OP {a d:AV} {l:List AV} {n:Nat}:(a::l).getD (n+1) d=l.getD n d:=rfl
theorem We {d:AV} {n:Nat}:([]:List AV).getD n d=d:=rfl
theorem Nr {a b:AV} {l:List AV}:(a::l).set 0 b=b::l:=rfl
theorem OA {a b:AV} {l:List AV} {n:Nat}:(a::l).set (n+1) b=a::l.set n b:=rfl
theorem Sr {α:Type} {a:α} {l:List α}:(a::l)[0]? =some a:=rfl
theorem SK {α:Type} {a:α} {l:List α} {n:Nat}:(a::l)[n+1]? =l[n]? :=rfl
theorem Wq {α:Type} {n:Nat}:([]:List α)[n]? =none:=rfl
theorem AD {cs:List AV}:(AV.agg cs).cells=cs:=rfl
theorem Av {n:Int}:(AV.int q n).cells=[.int q n]:=rfl
theorem wY {b:Bool}:(AV.bool b).cells=[.bool b]:=rfl
theorem zQ {b:List UInt8}:(AV.str b).cells=[.str b]:=rfl
theorem x8:AV.nils.cells=[.nils]:=rfl
theorem yw:AV.nilp.cells=[.nilp]:=rfl
theorem zH {i:Option Nat} {z:TypeId} {es:List (List AV)}:(AV.isl i z es).cells=[.isl i z es]:=rfl
theorem zV {b o n:Nat} {z:TypeId}:(AV.msl b o n z).cells=[.msl b o n z]:=rfl
theorem zS {b o n:Nat}:(AV.ptr b o n).cells=[.ptr b o n]:=rfl
theorem Jn {n:Int}:(AV.int q n).one=true:=rfl
theorem Ee {b:Bool}:(AV.bool b).one=true:=rfl
theorem JU {b:List UInt8}:(AV.str b).one=true:=rfl
theorem DS:AV.nils.one=true:=rfl
theorem FU:AV.nilp.one=true:=rfl
theorem J7 {i:Option Nat} {z:TypeId} {es:List (List AV)}:(AV.isl i z es).one=true:=rfl
theorem KQ {b o n:Nat} {z:TypeId}:(AV.msl b o n z).one=true:=rfl
theorem JL {b o n:Nat}:(AV.ptr b o n).one=true:=rfl
theorem An {t:TypeId} {v:AV}:(AV.iface t v).one=true:=rfl
theorem EA {p:AV→Bool} {a:AV} {l:List AV}:(a::l).all p=(p a && l.all p):=rfl
theorem K5 {p:AV→Bool}:([]:List AV).all p=true:=rfl
theorem JT {vs:List AV} {i:Nat}:XU (.tup vs) i=vs[i]? :=rfl
theorem DD {pl:List (Nat×Nat)} {cs:List AV}:jX pl cs []=some cs:=by cases pl<;>rfl
def f1A (pl:List (Nat×Nat)) (cs:List AV) (v:AV) (r:List (Nat×AV)):Option (Nat×Nat)→Option (List AV)
 | some (off,size)=>if v.cells.length=size∧off+size≤cs.length∧v.cells.all AV.one=true then jX pl (stA cs off v.cells) r else none
 | none=>none
theorem Bb {pl:List (Nat×Nat)} {cs:List AV} {i:Nat} {v:AV} {r:List (Nat×AV)}:jX pl cs ((i,v)::r)=f1A pl cs v r pl[i]? :=by
 conv=>lhs;unfold jX
 cases pl[i]? with
 | none=>rfl
 | some q=>rfl
theorem AQ {pl:List (Nat×Nat)} {cs:List AV} {off size:Nat} {v:AV} {r:List (Nat×AV)} (h1:v.cells.length=size) (h2:off+size≤cs.length) (h3:v.cells.all AV.one=true):
  f1A pl cs v r (some (off,size))=jX pl (stA cs off v.cells) r:=by simp[f1A,h1,h2,h3]
def s1A (n:Nat) (h:AH) (b i off:Nat) (cs:List AV):Option (List (List AV))→Option AH
 | some es=>(es[i]?).bind fun e=>if cs.all AV.one=true∧cs.length=n∧off+n≤e.length then some (h.set b (some (es.set i (stA e off cs))))else none
 | none=>none
def s2A (n:Nat) (h:AH) (b i off:Nat) (cs:List AV) (es:List (List AV)):Option (List AV)→Option AH
 | some e=>if cs.all AV.one=true∧cs.length=n∧off+n≤e.length then some (h.set b (some (es.set i (stA e off cs))))else none
 | none=>none
theorem s_1 {n b i off:Nat} {x:AV}:aZ n h (.ptr b i off) x=s1A n h b i off x.cells (h.cell b):=by
 simp only[aZ]
 cases h.cell b<;>rfl
theorem s_2 {n b i off:Nat} {cs:List AV} {es:List (List AV)}:s1A n h b i off cs (some es)=s2A n h b i off cs es es[i]? :=by
 simp only[s1A]
 cases es[i]? <;>rfl
theorem s_3 {n b i off:Nat} {cs:List AV} {es:List (List AV)} {e:List AV} (h1:cs.all AV.one=true) (h2:cs.length=n) (h3:off+n≤e.length):s2A n h b i off cs es (some e)=some (h.set b (some (es.set i (stA e off cs)))):=by simp[s2A,h1,h2,h3]
theorem AX {n:Nat} {es:List (List AV)}:jT n es []=some es:=by cases es<;>rfl
theorem wo {n:Nat} {es:List (List AV)} {i:Nat} {v:AV} {r:List (Nat×AV)} (h1:v.cells.length=n) (h2:i<es.length) (h3:v.cells.all AV.one=true):jT n es ((i,v)::r)=jT n (es.set i v.cells) r:=by
 conv=>lhs;unfold jT
 simp[h1,h2,h3]
theorem Ri {e cs:List AV} (he:e.length=cs.length):stA e 0 cs=cs:=by simp[stA,he]
theorem Sd {e:List AV}:stA e 0 []=e:=by simp[stA]
theorem Kt {a c:AV} {e cs:List AV}:stA (a::e) 0 (c::cs)=c::stA e 0 cs:=by simp[stA]
theorem KT {a:AV} {e cs:List AV} {n:Nat}:stA (a::e) (n+1) cs=a::stA e n cs:=by simp[stA,Nat.add_right_comm]
theorem JI {b:Nat} {x y:Option (List (List AV))}:(h.set b x).set b y=h.set b y:=by
 unfold AH.set
 congr 1
 funext j
 by_cases hj:j=b<;>simp[hj]
theorem aA {x y:List (List AV)}:(h.push x).set h.n (some y)=h.push y:=by
 unfold AH.push AH.set
 congr 1
 funext j
 by_cases hj:j=h.n<;>simp[hj]
theorem La:zC V L h []=True:=rfl
theorem EF {agg:Bool} {n:Nat} {a d:Arg} {r:List RCk}:zC V L h (⟨none,agg,n,a,d⟩::r)=(aR agg n h (arg V L a)=some (arg V L d)∧zC V L h r):=rfl
theorem DU {agg:Bool} {n:Nat} {g a d:Arg} {w:Bool} {r:List RCk}:zC V L h (⟨some (g,w),agg,n,a,d⟩::r)=((match gB w (arg V L g)with | some true=>aR agg n h (arg V L a)=some (arg V L d) | _=>True)∧zC V L h r):=by
 simp only[zC,tP,YB]<;>rfl
theorem rI {b:Bool}:fgA true h (.inl (.bool b),h)=some (.inl (.bool b),h):=aI (ab.refl h) rfl
theorem Rm {n:Int}:fgA true h (.inl (.int q n),h)=some (.inl (.int q n),h):=aI (ab.refl h) rfl
theorem NN {n:List UInt8}:fgA true h (.inl (.str n),h)=some (.inl (.str n),h):=aI (ab.refl h) rfl
theorem w64 {n:Int} (h1: -9223372036854775808≤n) (h2:n≤9223372036854775807):IntKind.wrap .i64 n=n:=by
 rw[IntKind.wrap_i64]
 omega
theorem aq {a b:List (List AV)}:((h.push a).push b).cell (h.n+1)=some b:=by simp[AH.push]
theorem jl {a b:List (List AV)}:((h.push a).push b).cell h.n=some a:=by simp[AH.push]
theorem az {a x y:List (List AV)}:((h.push a).push x).set (h.n+1) (some y)=(h.push a).push y:=aA (h:=h.push a)
theorem aw {a b c:List (List AV)}:(((h.push a).push b).push c).cell (h.n+1+1)=some c:=by simp[AH.push]
theorem iE {a b c:List (List AV)}:(((h.push a).push b).push c).cell (h.n+1)=some b:=by simp[AH.push]
theorem gA {a b c:List (List AV)}:(((h.push a).push b).push c).cell h.n=some a:=by simp[AH.push,show ¬ h.n=h.n+1+1 by omega]
theorem aE {a b x y:List (List AV)}:(((h.push a).push b).push x).set (h.n+1+1) (some y)=((h.push a).push b).push y:=aA (h:=(h.push a).push b)
theorem bv {es:List (List AV)} {j:Nat} (hj:j<h.n):(h.push es).cell j=h.cell j:=gW (by omega)
theorem aG {b b':List RS} (hb:b=b'):aC C nv (.lp b::k) V L h=aC C nv (.ss b':: .lp b::k) (aa nv V) L h:=by subst hb;exact aak
theorem Tt {agg:Bool} {n b:Nat} {t:TypeId}:aR agg n h (.tptr t b)=((h.cell b).bind (·[0]?)).bind fun e=>ldA agg n e 0:=rfl
theorem JJ {t:TypeId} {b:Nat}:aP 0 (.tptr t b)=some (.tptr t b):=rfl
theorem K9 {t:TypeId} {b:Nat}:aP 1 (.tptr t b)=some (.ptr b 0 1):=rfl
theorem KZ {t:TypeId} {b:Nat}:aP 2 (.tptr t b)=some (.ptr b 0 2):=rfl
theorem Ku {t:TypeId} {b:Nat}:aP 3 (.tptr t b)=some (.ptr b 0 3):=rfl
theorem ON {t:TypeId} {b:Nat}:DE (.tptr t b)=some (.tptr t b):=rfl
theorem ZH {n b:Nat} {t:TypeId} {x:AV}:aZ n h (.tptr t b) x=s1A n h b 0 0 x.cells (h.cell b):=by
 simp only[aZ]
 cases h.cell b<;>rfl
theorem vZ {t:TypeId} {b:Nat}:(AV.tptr t b).cells=[.tptr t b]:=rfl
theorem ET {t:TypeId} {b:Nat}:(AV.tptr t b).one=true:=rfl
theorem QC {a b:Int}:mmA false (.int q a) (.int q b)=some (.int q (if b<a then b else a)):=rfl
theorem Qx {a b:Int}:mmA true (.int q a) (.int q b)=some (.int q (if b>a then b else a)):=rfl
theorem WP {a b:Int}:bO kd .rem (.int q a) (.int q b)=if b=0 then none else some (.int q (a.tmod b)):=by simp[bO,oT]
theorem PW {b i o:Nat}:bO .ptr .eql (.ptr b i o) .nilp=some (.bool false):=by simp[bO,eqA]
theorem Jw {t:TypeId} {b:Nat}:bO .ptr .eql (.tptr t b) .nilp=some (.bool false):=by simp[bO,eqA]
theorem WM:bO .ptr .eql .nilp .nilp=some (.bool true):=by simp[bO,eqA]
theorem Jv {b i o:Nat}:bO .ptr .neq (.ptr b i o) .nilp=some (.bool true):=by simp[bO,eqA]
theorem Fu {t:TypeId} {b:Nat}:bO .ptr .neq (.tptr t b) .nilp=some (.bool true):=by simp[bO,eqA]
theorem OG:bO .ptr .neq .nilp .nilp=some (.bool false):=by simp[bO,eqA]
theorem Ow {t:TypeId} {v:AV} {ks:Option (List Kd)} {cy:Bool}:ma .iface ks cy .neq (.iface t v) .nili=some (.bool true):=by simp[ma,bO,eqA]
theorem WJ {ks:Option (List Kd)}:ma .iface ks true .neq .nili .nili=some (.bool false):=by simp[ma,XS]
theorem JW {t:TypeId} {v:AV} {ks:Option (List Kd)} {cy:Bool}:ma .iface ks cy .eql (.iface t v) .nili=some (.bool false):=by simp[ma,bO,eqA]
theorem QG {ks:Option (List Kd)}:ma .iface ks true .eql .nili .nili=some (.bool true):=by simp[ma,XS]
theorem af:(type_of% @List.length_cons.{0})∧(type_of% @List.length_nil.{0})∧(type_of% @List.cons_append.{0})∧(type_of% @List.nil_append.{0})∧(type_of% @List.map_cons.{0,0})∧(type_of% @List.map_nil.{0,0})∧(type_of% @Option.bind_some.{0,0})∧(type_of% @Option.map_some.{0,0})∧(type_of% @Option.bind_none.{0,0})∧(type_of% @Option.map_none.{0,0})∧(type_of% @if_true.{1})∧(type_of% @if_false.{1})∧(type_of% @decide_true)∧(type_of% @decide_false)∧(type_of% @Bool.false_eq_true)∧(type_of% @Bool.true_eq_false)∧(type_of% @Bool.not_true)∧(type_of% @Bool.not_false)∧(type_of% @Bool.and_true)∧(type_of% @Bool.true_and)∧(type_of% @Bool.and_false)∧(type_of% @Bool.false_and)∧(type_of% @Bool.or_true)∧(type_of% @Bool.true_or)∧(type_of% @Bool.or_false)∧(type_of% @Bool.false_or)∧(type_of% @true_and)∧(type_of% @and_true)∧(type_of% @false_and)∧(type_of% @and_false)∧(type_of% @List.take_zero.{0})∧(type_of% @List.take_succ_cons.{0})∧(type_of% @List.drop_zero.{0})∧(type_of% @List.drop_succ_cons.{0})∧(type_of% @List.take_nil.{0})∧(type_of% @List.drop_nil.{0})∧(type_of% @List.set_cons_zero.{0})∧(type_of% @List.set_cons_succ.{0})∧(type_of% @Nat.zero_add)∧(type_of% @Nat.lt_add_one)∧(type_of% @Nat.le_refl)∧(type_of% @Int.toNat_natCast):=
 ⟨@List.length_cons.{0},@List.length_nil.{0},@List.cons_append.{0},@List.nil_append.{0},@List.map_cons.{0,0},@List.map_nil.{0,0},@Option.bind_some.{0,0},@Option.map_some.{0,0},@Option.bind_none.{0,0},@Option.map_none.{0,0},@if_true.{1},@if_false.{1},@decide_true,@decide_false,@Bool.false_eq_true,@Bool.true_eq_false,@Bool.not_true,@Bool.not_false,@Bool.and_true,@Bool.true_and,@Bool.and_false,@Bool.false_and,@Bool.or_true,@Bool.true_or,@Bool.or_false,@Bool.false_or,@true_and,@and_true,@false_and,@and_false,@List.take_zero.{0},@List.take_succ_cons.{0},@List.drop_zero.{0},@List.drop_succ_cons.{0},@List.take_nil.{0},@List.drop_nil.{0},@List.set_cons_zero.{0},@List.set_cons_succ.{0},@Nat.zero_add,@Nat.lt_add_one,@Nat.le_refl,@Int.toNat_natCast⟩
theorem sim:(type_of% @WD)∧(type_of% @EH)∧(type_of% @Q1)∧(type_of% @Tl)∧(type_of% @B5)∧(type_of% @HF)∧(type_of% @RA)∧(type_of% @Xf)∧(type_of% @V7)∧(type_of% @sR)∧(type_of% @KJ)∧(type_of% @r_g)∧(type_of% @Tj)∧(type_of% @PI)∧(type_of% @Ze)∧(type_of% @Oo)∧(type_of% @Lh)∧(type_of% @RT)∧(type_of% @WI)∧(type_of% @NA)∧(type_of% @Zy)∧(type_of% @Ss)∧(type_of% @V9)∧(type_of% @W2)∧(type_of% @Xg)∧(type_of% @Wt)∧(type_of% @W0)∧(type_of% @Xc)∧(type_of% @Y1)∧(type_of% @Xi)∧(type_of% @Xk)∧(type_of% @Ws)∧(type_of% @JA)∧(type_of% @WX)∧(type_of% @Oe)∧(type_of% @WH)∧(type_of% @Nz)∧(type_of% @K8)∧(type_of% @Wr)∧(type_of% @Wg)∧(type_of% @Ld)∧(type_of% @Ll)∧(type_of% @Kn)∧(type_of% @OT)∧(type_of% @Fq)∧(type_of% @JQ)∧(type_of% @FG)∧(type_of% @Kl)∧(type_of% @JF)∧(type_of% @zM)∧(type_of% @lK)∧(type_of% @sU)∧(type_of% @W9)∧(type_of% @WB)∧(type_of% @Xh)∧(type_of% @P1)∧(type_of% @QO)∧(type_of% @Nw)∧(type_of% @QP)∧(type_of% @QZ)∧(type_of% @Rv)∧(type_of% @YB)∧(type_of% @KA)∧(type_of% @S6)∧(type_of% @Wk)∧(type_of% @ZS)∧(type_of% @Z3)∧(type_of% @WW)∧(type_of% @Kv)∧(type_of% @Wd)∧(type_of% @EG)∧(type_of% @Wp)∧(type_of% @WK)∧(type_of% @WG)∧(type_of% @WU)∧(type_of% @ng)∧(type_of% @kX)∧(type_of% @Xa)∧(type_of% @WZ)∧(type_of% @V0)∧(type_of% @VQ)∧(type_of% @Wa)∧(type_of% @W5)∧(type_of% @WN)∧(type_of% @W3)∧(type_of% @V8)∧(type_of% @Ww)∧(type_of% @ZN)∧(type_of% @FP)∧(type_of% @Qk)∧(type_of% @SZ)∧(type_of% @Q3)∧(type_of% @Rz)∧(type_of% @P9)∧(type_of% @zW)∧(type_of% @Kz)∧(type_of% @Wb)∧(type_of% @WY)∧(type_of% @Wx)∧(type_of% @WE)∧(type_of% @bP)∧(type_of% @Zz)∧(type_of% @hD)∧(type_of% @VY)∧(type_of% @Z5)∧(type_of% @Wc)∧(type_of% @ZD)∧(type_of% @Fs)∧(type_of% @JC)∧(type_of% @JN)∧(type_of% @Kk)∧(type_of% @AO)∧(type_of% @mh)∧(type_of% @ml)∧(type_of% @E8)∧(type_of% @bR)∧(type_of% @fI)∧(type_of% @pI)∧(type_of% @tA)∧(type_of% @ap)∧(type_of% @bd)∧(type_of% @gM)∧(type_of% @Lb)∧(type_of% @iZ)∧(type_of% @By)∧(type_of% @uf)∧(type_of% @sc)∧(type_of% @Ah)∧(type_of% @OF)∧(type_of% @FT)∧(type_of% @KK)∧(type_of% @NW)∧(type_of% @OP)∧(type_of% @Nr)∧(type_of% @OA)∧(type_of% @We)∧(type_of% @Sr)∧(type_of% @SK)∧(type_of% @Wq)∧(type_of% @Km)∧(type_of% @Zt)∧(type_of% @s_1)∧(type_of% @s_2)∧(type_of% @s_3)∧(type_of% @AD)∧(type_of% @Av)∧(type_of% @wY)∧(type_of% @zQ)∧(type_of% @x8)∧(type_of% @yw)∧(type_of% @zH)∧(type_of% @zV)∧(type_of% @zS)∧(type_of% @Jn)∧(type_of% @Ee)∧(type_of% @JU)∧(type_of% @DS)∧(type_of% @FU)∧(type_of% @J7)∧(type_of% @KQ)∧(type_of% @JL)∧(type_of% @An)∧(type_of% @EA)∧(type_of% @K5)∧(type_of% @JT)∧(type_of% @DD)∧(type_of% @Bb)∧(type_of% @AQ)∧(type_of% @AX)∧(type_of% @wo)∧(type_of% @Ri)∧(type_of% @Sd)∧(type_of% @Kt)∧(type_of% @KT)∧(type_of% @JI)∧(type_of% @aA)∧(type_of% @PZ)∧(type_of% @NI)∧(type_of% @FM)∧(type_of% @ZA)∧(type_of% @Tt)∧(type_of% @JJ)∧(type_of% @K9)∧(type_of% @KZ)∧(type_of% @Ku)∧(type_of% @ON)∧(type_of% @ZH)∧(type_of% @vZ)∧(type_of% @ET)∧(type_of% @QC)∧(type_of% @Qx)∧(type_of% @WP)∧(type_of% @PW)∧(type_of% @Jw)∧(type_of% @WM)∧(type_of% @Jv)∧(type_of% @Fu)∧(type_of% @OG)∧(type_of% @Ow)∧(type_of% @WJ)∧(type_of% @JW)∧(type_of% @QG)∧(type_of% @La)∧(type_of% @EF)∧(type_of% @DU)∧(type_of% @rI)∧(type_of% @Rm)∧(type_of% @NN)∧(type_of% @bi)∧(type_of% @aq)∧(type_of% @jl)∧(type_of% @az)∧(type_of% @aw)∧(type_of% @iE)∧(type_of% @gA)∧(type_of% @aE):=
 ⟨@WD,@EH,@Q1,@Tl,@B5,@HF,@RA,@Xf,@V7,@sR,@KJ,@r_g,@Tj,@PI,@Ze,@Oo,@Lh,@RT,@WI,@NA,@Zy,@Ss,@V9,@W2,@Xg,@Wt,@W0,@Xc,@Y1,@Xi,@Xk,@Ws,@JA,@WX,@Oe,@WH,@Nz,@K8,@Wr,@Wg,@Ld,@Ll,@Kn,@OT,@Fq,@JQ,@FG,@Kl,@JF,@zM,@lK,@sU,@W9,@WB,@Xh,@P1,@QO,@Nw,@QP,@QZ,@Rv,@YB,@KA,@S6,@Wk,@ZS,@Z3,@WW,@Kv,@Wd,@EG,@Wp,@WK,@WG,@WU,@ng,@kX,@Xa,@WZ,@V0,@VQ,@Wa,@W5,@WN,@W3,@V8,@Ww,@ZN,@FP,@Qk,@SZ,@Q3,@Rz,@P9,@zW,@Kz,@Wb,@WY,@Wx,@WE,@bP,@Zz,@hD,@VY,@Z5,@Wc,@ZD,@Fs,@JC,@JN,@Kk,@AO,@mh,@ml,@E8,@bR,@fI,@pI,@tA,@ap,@bd,@gM,@Lb,@iZ,@By,@uf,@sc,@Ah,@OF,@FT,@KK,@NW,@OP,@Nr,@OA,@We,@Sr,@SK,@Wq,@Km,@Zt,@s_1,@s_2,@s_3,@AD,@Av,@wY,@zQ,@x8,@yw,@zH,@zV,@zS,@Jn,@Ee,@JU,@DS,@FU,@J7,@KQ,@JL,@An,@EA,@K5,@JT,@DD,@Bb,@AQ,@AX,@wo,@Ri,@Sd,@Kt,@KT,@JI,@aA,@PZ,@NI,@FM,@ZA,@Tt,@JJ,@K9,@KZ,@Ku,@ON,@ZH,@vZ,@ET,@QC,@Qx,@WP,@PW,@Jw,@WM,@Jv,@Fu,@OG,@Ow,@WJ,@JW,@QG,@La,@EF,@DU,@rI,@Rm,@NN,@bi,@aq,@jl,@az,@aw,@iE,@gA,@aE⟩
end
def SlA (e:TypeId) (v:AV) (es:List (List AV)):Prop:=(es=[]∧v= .nils)∨∃ id,v= .isl id e es
abbrev bH (l:List Int):List (List AV):=l.map fun x=>[.int .i64 x]
inductive XD where
 | mk (op k n:Int) (l:List XD)
def XD.op:XD→Int
 | .mk op _ _ _=>op
def XD.k:XD→Int
 | .mk _ k _ _=>k
def XD.n:XD→Int
 | .mk _ _ n _=>n
def XD.l:XD→List XD
 | .mk _ _ _ l=>l
theorem XD.eta (x:XD):x= .mk x.op x.k x.n x.l:=by cases x;rfl
theorem XD.lt_mem {x y:XD} (h:y∈x.l):SizeOf.sizeOf y<SizeOf.sizeOf x:=by
 cases x with
 | mk op k n l=>
   have:=List.sizeOf_lt_of_mem (show y∈l from h)
   simp only[XD.mk.sizeOf_spec]
   omega
mutual
def XD.size:XD→Nat
 | .mk _ _ _ l=>1+bc l
def bc:List XD→Nat
 | []=>0
 | x::l=>x.size+bc l
end
mutual
def XD.depth:XD→Nat
 | .mk _ _ _ l=>bD l
def bD:List XD→Nat
 | []=>0
 | x::l=>max (1+x.depth) (bD l)
end
theorem XD.size_eq (x:XD):x.size=1+bc x.l:=by cases x;simp[XD.size,XD.l]
theorem XD.depth_eq (x:XD):x.depth=bD x.l:=by cases x;simp[XD.depth,XD.l]
theorem gL:∀ (l l':List XD),bc (l++l')=bc l+bc l'
 | [],l'=>by simp[bc]
 | x::l,l'=>by simp[bc,gL l l',Nat.add_assoc]
theorem kL:∀ (l l':List XD),bD (l++l')=max (bD l) (bD l')
 | [],l'=>by simp[bD]
 | x::l,l'=>by simp[bD,kL l l',Nat.max_assoc]
theorem yo (x:XD):bc [x]=x.size:=by simp[bc]
theorem Fa (x:XD):bD [x]=1+x.depth:=by simp[bD]
theorem XD.size_pos (x:XD):1≤x.size:=by rw[x.size_eq];omega
theorem XD.len_size (x:XD):x.l.length<x.size:=by
 have:∀ l:List XD,l.length≤bc l:=by
  intro l
  induction l with
  | nil=>simp
  | cons y l ih=>
    have:=y.size_pos
    simp only[bc,List.length_cons]
    omega
 have:=this x.l
 rw[x.size_eq]
 omega
theorem XD.so_pos (x:XD):1≤SizeOf.sizeOf x:=by
 cases x
 simp only[XD.mk.sizeOf_spec]
 omega
theorem yq {n:Nat}:∀ {l:List XD},bD l≤n↔∀ y∈l,1+y.depth≤n
 | []=>by simp[bD]
 | x::l=>by
   have:=yq (n:=n) (l:=l)
   simp only[bD,List.mem_cons,forall_eq_or_imp,←this]
   omega
theorem PG (x:XD) {left:Int} (h0:0≤left):(!(x.l.any fun y=> !decide ((y.depth:Int)≤left - 1)))=decide ((x.depth:Int)≤left):=by
 obtain⟨n,rfl⟩:∃ n:Nat,left=n:=⟨left.toNat,by omega⟩
 have h:=yq (n:=n) (l:=x.l)
 rw[←x.depth_eq]at h
 by_cases hx:x.depth≤n
 ·have h1:((x.depth:Nat):Int)≤(n:Int):=by omega
  have h2:(x.l.any fun y=> !decide ((y.depth:Int)≤(n:Int) - 1))=false:=by
   rw[List.any_eq_false]
   intro y hy
   have:=h.1 hx y hy
   have h3:(y.depth:Int)≤(n:Int) - 1:=by omega
   simp[h3]
  rw[h2]
  simp[h1]
 ·have h1:¬ ((x.depth:Nat):Int)≤(n:Int):=by omega
  have h2:(x.l.any fun y=> !decide ((y.depth:Int)≤(n:Int) - 1))=true:=by
   cases hb:(x.l.any fun y=> !decide ((y.depth:Int)≤(n:Int) - 1))
   ·exfalso
    apply hx
    apply h.2
    intro y hy
    have:=(List.any_eq_false.1 hb) y hy
    simp at this
    omega
   ·rfl
  rw[h2]
  simp[h1]
def bh (op:Int):Int:=
 if op=1∨op=2∨op=3∨op=4∨op=21 then 0
 else if op=9∨op=10∨op=11∨op=12∨op=13∨op=15∨op=16∨op=17∨op=18∨op=20 then 1
 else if op=5∨op=6∨op=8∨op=14∨op=19 then 2
 else if op=7 then 3 else -1
def lH (nf op k n o:Int):Int:=
 if n≠0∧op≠2 then 5
 else if op=4 then(if k<0∨o≤k then 1 else 0)
 else if op=6 then(if k<1∨5<k then 1 else 0)
 else if op=15 then(if k<0∨15<k then 1 else 0)
 else if op=18 then(if k<0∨nf≤k then 1 else 0)
 else if k≠0 then 5 else 0
def gD (nf op k n:Int) (len:Nat) (o:Int):Int:=
 if bh op<0 then 2 else if(len:Int)≠bh op then 5
 else if lH nf op k n o≠0 then lH nf op k n o
 else if op=5∧o=12 then 3 else 0
mutual
def XD.fault (nf:Int):XD→Int→Int
 | .mk op k n l,o=>if gD nf op k n l.length o≠0 then gD nf op k n l.length o else fq nf op 0 l o
def fq (nf op:Int):Nat→List XD→Int→Int
 | _,[],_=>0
 | i,x::l,o=>if x.fault nf (if op=5∧i=1 then o+1 else o)≠0 then x.fault nf (if op=5∧i=1 then o+1 else o)else fq nf op (i+1) l o
end
def iw (nf:Int) (x:XD):Int:=if 30<x.depth then 4 else if 120<x.size then 3 else x.fault nf 0
def iz (nf:Int):Nat→List XD→Int×Int
 | _,[]=>(0,0)
 | i,x::l=>if iw nf x≠0 then(iw nf x,i)else iz nf (i+1) l
def aU (l:List XD):Int×Int:=if l.length=0∨6<l.length then(3, -1)else iz l.length 0 l
def jg (l:List XD):Bool:=decide (20<l.length) || l.any fun x=>decide (600<x.size)
abbrev tE:TypeId:=109
mutual
def ExA:XD→List AV→Prop
 | .mk op k n l,r=>∃ v es,r=[.int .i64 op,.int .i64 k,.int .i64 n,v]∧SlA tE v es∧ExL l es
def ExL:List XD→List (List AV)→Prop
 | [],es=>es=[]
 | x::l,es=>∃ r rs,es=r::rs∧ExA x r∧ExL l rs
end
structure bq where
 op:Int
 k:Int
 n:Int
def jK:List (Nat→List bq)→Nat→List bq
 | [],_=>[]
 | f::fs,p=>f p++jK fs (p+(f p).length)
def X8 (f0 f1:Nat→List bq) (p:Nat):List bq:=⟨100,0,0⟩::(f0 (p+1)++⟨101,0,0⟩::(f1 (p+1+(f0 (p+1)).length+1)++[⟨102,0,0⟩]))
def jV (f0 f1:Nat→List bq) (p:Nat):Nat:=p+1+(f0 (p+1)).length+1+(f1 (p+1+(f0 (p+1)).length+1)).length+1
def ifC (f0 f1 f2:Nat→List bq) (p:Nat):List bq:=
 ⟨100,0,0⟩::(f0 (p+1)++⟨103,(jV f0 f1 p:Nat),0⟩::(f1 (p+1+(f0 (p+1)).length+1)++⟨104,((jV f0 f1 p+(f2 (jV f0 f1 p)).length:Nat):Int),0⟩::f2 (jV f0 f1 p)))
def zk (op k n:Int) (fs:List (Nat→List bq)) (p:Nat):List bq:=
 if op=5 then(match fs with | [f0,f1]=>X8 f0 f1 p | _=>[])
 else if op=7 then(match fs with | [f0,f1,f2]=>ifC f0 f1 f2 p | _=>[])
 else⟨100,0,0⟩::(jK fs (p+1)++[⟨op,k,n⟩])
mutual
def aF:XD→Nat→List bq
 | .mk op k n l=>zk op k n (yJ l)
def yJ:List XD→List (Nat→List bq)
 | []=>[]
 | x::l=>aF x::yJ l
end
theorem Rc (x:XD):aF x=zk x.op x.k x.n (yJ x.l):=by cases x;simp only[aF,XD.op,XD.k,XD.n,XD.l]
open Classical in
theorem vU:∀ l:List XD,yJ l=l.map aF
 | []=>rfl
 | x::l=>by simp only[yJ,List.map_cons,vU l]
theorem ky (x:XD):aF x=zk x.op x.k x.n (x.l.map aF):=by rw[Rc,vU]
theorem xZ:∀ (l:List XD) (p:Nat),(∀ y∈l,∀ p,(aF y p).length≤3*y.size)→(jK (l.map aF) p).length≤3*bc l
 | [],p,_=>by simp[jK]
 | x::l,p,h=>by
   have h1:=h x (by simp) p
   have h2:=xZ l (p+(aF x p).length) fun y hy=>h y (by simp[hy])
   simp only[List.map_cons,jK,List.length_append,bc]
   omega
theorem gu:∀ (N:Nat) (x:XD),SizeOf.sizeOf x≤N→∀ p:Nat,(aF x p).length≤3*x.size:=by
 intro N
 induction N with
 | zero=>intro x hx;have:=x.so_pos;omega
 | succ N ih=>
   intro x hx p
   have hc:∀ y∈x.l,∀ p,(aF y p).length≤3*y.size:=fun y hy=>ih y (by have:=XD.lt_mem hy;omega)
   have hs:=x.size_eq
   rw[ky]
   generalize x.l=l at hc hs
   unfold zk
   split
   ·match l,hc,hs with
    | [],_,_=>simp
    | [a],_,_=>simp
    | [a,b],hc,hs=>
      have h1:=hc a (by simp) (p+1)
      have h2:=hc b (by simp) (p+1+(aF a (p+1)).length+1)
      simp only[bc]at hs
      simp only[List.map_cons,List.map_nil,X8,List.length_cons,List.length_append,List.length_nil]
      have:=a.size_pos
      omega
    | a::b::c::l,_,_=>simp
   ·split
    ·match l,hc,hs with
     | [],_,_=>simp
     | [a],_,_=>simp
     | [a,b],_,_=>simp
     | [a,b,c],hc,hs=>
       have h1:=hc a (by simp) (p+1)
       have h2:=hc b (by simp) (p+1+(aF a (p+1)).length+1)
       have h3:=hc c (by simp) (jV (aF a) (aF b) p)
       simp only[bc]at hs
       simp only[List.map_cons,List.map_nil,ifC,List.length_cons,List.length_append]
       omega
     | a::b::c::d::l,_,_=>simp
    ·have:=xZ l (p+1) hc
     simp only[List.length_cons,List.length_append,List.length_nil]
     omega
theorem lu {nf o:Int} {x:XD} (h:x.fault nf o=0):0≤bh x.op∧(x.l.length:Int)=bh x.op∧lH nf x.op x.k x.n o=0∧¬ (x.op=5∧o=12)∧fq nf x.op 0 x.l o=0:=by
 cases x with
 | mk op k n l=>
   simp only[XD.fault]at h
   split at h
   ·rename_i h1;exact absurd h h1
   ·rename_i h1
    have h1:gD nf op k n l.length o=0:=by simpa using h1
    unfold gD at h1
    split at h1
    ·cases h1
    ·split at h1
     ·cases h1
     ·split at h1
      ·rename_i h2;exact absurd h1 h2
      ·split at h1
       ·cases h1
       ·rename_i a b c d
        simp only[XD.op,XD.k,XD.n,XD.l]
        exact⟨by omega,by simpa using b,by simpa using c,d,h⟩
theorem f8 {nf op o:Int} {i:Nat} {x:XD} {l:List XD} (h:fq nf op i (x::l) o=0):x.fault nf (if op=5∧i=1 then o+1 else o)=0∧fq nf op (i+1) l o=0:=by
 simp only[fq]at h
 generalize x.fault nf (if op=5∧i=1 then o+1 else o)=c at h
 by_cases hc:c=0
 ·exact⟨hc,by simpa[hc]using h⟩
 ·simp[hc]at h
theorem jf {nf op o:Int} (hop:op≠5):∀ {l:List XD} {i:Nat},fq nf op i l o=0→∀ y∈l,y.fault nf o=0
 | [],_,_,y,hy=>by simp at hy
 | x::l,i,h,y,hy=>by
   obtain⟨h1,h2⟩:=f8 h
   rw[if_neg (fun h=>hop h.1)]at h1
   rcases List.mem_cons.1 hy with rfl | hy
   ·exact h1
   ·exact jf hop h2 y hy
inductive VD where
 | mk (kind n:Int) (l:List VD)
def VD.kind:VD→Int
 | .mk k _ _=>k
def VD.n:VD→Int
 | .mk _ n _=>n
def VD.l:VD→List VD
 | .mk _ _ l=>l
theorem VD.eta (x:VD):x= .mk x.kind x.n x.l:=by cases x;rfl
theorem VD.lt_mem {x y:VD} (h:y∈x.l):SizeOf.sizeOf y<SizeOf.sizeOf x:=by
 cases x with
 | mk kind n l=>
   have:=List.sizeOf_lt_of_mem (show y∈l from h)
   simp only[VD.mk.sizeOf_spec]
   omega
theorem VD.so_pos (x:VD):1≤SizeOf.sizeOf x:=by
 cases x
 simp only[VD.mk.sizeOf_spec]
 omega
mutual
def VD.size:VD→Nat
 | .mk _ _ l=>1+cg l
def cg:List VD→Nat
 | []=>0
 | x::l=>x.size+cg l
end
theorem VD.size_eq (x:VD):x.size=1+cg x.l:=by cases x;simp[VD.size,VD.l]
theorem jn:∀ (l l':List VD),cg (l++l')=cg l+cg l'
 | [],l'=>by simp[cg]
 | x::l,l'=>by simp[cg,jn l l',Nat.add_assoc]
theorem GZ (x:VD):cg [x]=x.size:=by simp[cg]
theorem VD.size_pos (x:VD):1≤x.size:=by rw[x.size_eq];omega
theorem qH:∀ l:List VD,l.length≤cg l
 | []=>by simp
 | y::l=>by
   have:=y.size_pos
   have:=qH l
   simp only[cg,List.length_cons]
   omega
theorem VD.len_size (x:VD):x.l.length<x.size:=by
 have:=qH x.l
 rw[x.size_eq]
 omega
theorem VD.size_mem {x y:VD} (h:y∈x.l):y.size<x.size:=by
 have:∀ l:List VD,y∈l→y.size≤cg l:=by
  intro l
  induction l with
  | nil=>intro hm;simp at hm
  | cons z l ih=>
    intro hm
    simp only[cg]
    rcases List.mem_cons.1 hm with rfl | hm
    ·omega
    ·have:=ih hm;omega
 have:=this x.l h
 rw[x.size_eq]
 omega
def ff (kind:Int):Nat:=if kind=2 then 2 else if kind=3 then 1 else 0
def di (kind n:Int) (len:Nat):Int:=
 if kind<0∨5<kind then 2 else if len≠ff kind then 5 else if(kind=0∨kind=2)∧n≠0 then 5 else if 3≤kind∧n<0 then 1 else 0
mutual
def VD.fault:VD→Int
 | .mk kind n l=>if di kind n l.length≠0 then di kind n l.length else dt l
def dt:List VD→Int
 | []=>0
 | x::l=>if x.fault≠0 then x.fault else dt l
end
def VD.code (x:VD):Int:=if 40<x.size then 3 else x.fault
theorem VD.fault_eq (x:VD):x.fault=if di x.kind x.n x.l.length≠0 then di x.kind x.n x.l.length else dt x.l:=by
 cases x
 rfl
theorem iu (x:VD) (l:List VD):dt (x::l)=if x.fault≠0 then x.fault else dt l:=rfl
mutual
def pX:VD→VD→Bool
 | .mk k n l,.mk k' n' l'=>decide (k=k') && (decide (n=n') && gG l l')
def gG:List VD→List VD→Bool
 | [],[]=>true
 | x::l,y::l'=>pX x y && gG l l'
 | _,_=>false
end
mutual
theorem qL:∀ x:VD,pX x x=true
 | .mk kind n l=>by simp[pX,uF l]
theorem uF:∀ l:List VD,gG l l=true
 | []=>rfl
 | x::l=>by simp[gG,qL x,uF l]
end
mutual
theorem L0:∀ {x y:VD},pX x y=true→x=y
 | .mk k n l,.mk k' n' l',h=>by
   simp only[pX,Bool.and_eq_true,decide_eq_true_eq]at h
   obtain⟨rfl,rfl,h⟩:=h
   rw[qu h]
theorem qu:∀ {l l':List VD},gG l l'=true→l=l'
 | [],[],_=>rfl
 | x::l,y::l',h=>by
   simp only[gG,Bool.and_eq_true]at h
   rw[L0 h.1,qu h.2]
 | [],_::_,h=>by simp[gG]at h
 | _::_,[],h=>by simp[gG]at h
end
theorem Ml {l l':List VD} (h:decide ((l.length:Int)=(l'.length:Int))=false):gG l l'=false:=by
 cases hs:gG l l'
 ·rfl
 ·rw[qu hs]at h
  simp at h
theorem N4 (x y:VD):pX x y=(decide (x.kind=y.kind) && (decide (x.n=y.n) && gG x.l y.l)):=by
 cases x;cases y
 rfl
mutual
def VD.caps:VD→List Int
 | .mk kind n l=>(if kind=4 then[n]else[])++eE l
def eE:List VD→List Int
 | []=>[]
 | x::l=>x.caps++eE l
end
theorem VD.caps_eq (x:VD):x.caps=(if x.kind=4 then[x.n]else[])++eE x.l:=by
 cases x
 rfl
theorem lR:∀ (l l':List VD),eE (l++l')=eE l++eE l'
 | [],l'=>by simp[eE]
 | x::l,l'=>by simp[eE,lR l l',List.append_assoc]
mutual
theorem VD.caps_few:∀ x:VD,x.caps.length≤x.size
 | .mk kind n l=>by
   have:=mZ l
   simp only[VD.caps,VD.size,List.length_append]
   split<;>simp<;>omega
theorem mZ:∀ l:List VD,(eE l).length≤cg l
 | []=>by simp[eE]
 | x::l=>by
   have:=VD.caps_few x
   have:=mZ l
   simp only[eE,cg,List.length_append]
   omega
end
mutual
def VD.gate:VD→Bool
 | .mk kind _ l=>decide (kind=5) || jp l
def jp:List VD→Bool
 | []=>false
 | x::l=>x.gate || jp l
end
theorem VD.gate_eq (x:VD):x.gate=(decide (x.kind=5) || jp x.l):=by
 cases x
 rfl
theorem uN:∀ l:List VD,jp l=l.any VD.gate
 | []=>rfl
 | x::l=>by simp only[jp,List.any_cons,uN l]
def VD.great (x:VD):Bool:=decide (500<x.size)
abbrev tV:TypeId:=35
mutual
def VaA:VD→List AV→Prop
 | .mk kind n l,r=>∃ v es,r=[.int .i64 kind,.int .i64 n,v]∧SlA tV v es∧VaL l es
def VaL:List VD→List (List AV)→Prop
 | [],es=>es=[]
 | x::l,es=>∃ r rs,es=r::rs∧VaA x r∧VaL l rs
end
open Go.RowKit
theorem IT (x:BitVec 64):IntKind.i64.wrap (x.toNat:Int)=x.toInt:=by
 have h:=x.isLt
 rw[BitVec.toInt_eq_toNat_cond,IntKind.wrap_i64]
 split<;>omega
theorem yU (a b:Int):bits .and .i64 a b=(BitVec.ofInt 64 a &&& BitVec.ofInt 64 b).toInt:=IT _
theorem sA (x:BitVec 64):BitVec.ofInt 64 x.toInt=x:=BitVec.ofInt_toInt
def qe (a b:Int):Int:=bits .and .i64 a b
def LC (a b:Int):Bool:=qe a b==b
theorem LV (x y:BitVec 64):qe x.toInt y.toInt=(x &&& y).toInt:=by
 unfold qe
 rw[yU,sA,sA]
theorem FS (x y:BitVec 64):LC x.toInt y.toInt=decide (x &&& y=y):=by
 unfold LC
 rw[LV,Bool.eq_iff_iff,beq_iff_eq,BitVec.toInt_inj,decide_eq_true_eq]
def gX (a:Int):Bool:=decide (0≤a∧a≤15)
def cP (a:Int) (i:Nat):Bool:=bits .and .i64 (a / 2 ^ i) 1==1
open Go.RowKit
structure bw where
 (parent gate rights cell plugin func:Int)
def bM:bw:=⟨0,0,0,0,0,0⟩
structure ae where
 nodes:List bw
 shut:List Bool
def ae.has (G:ae) (n:Int):Bool:=decide (0≤n∧n<G.nodes.length)
def ae.hasGate (G:ae) (k:Int):Bool:=decide (0≤k∧k<G.shut.length)
def ae.isOpen (G:ae) (k:Int):Bool:=G.hasGate k && !(G.shut.getD k.toNat false)
def ae.gate (G:ae):ae×Int×Int:=if G.shut.length=20 then(G,0,11)else(⟨G.nodes,G.shut++[false]⟩,G.shut.length,0)
def ae.cut (G:ae) (k:Int):ae×Int:=if G.hasGate k then(⟨G.nodes,G.shut.set k.toNat true⟩,0)else(G,8)
def ae.add (G:ae) (n:bw):ae×Int×Int:=
 if gX n.rights=false then(G,0,1)
 else if n.gate≠ -1∧G.hasGate n.gate=false then(G,0,8)
 else if G.nodes.length=80 then(G,0,11)
 else(⟨G.nodes++[n],G.shut⟩,G.nodes.length,0)
def iY (c:Int):Bool:=decide (0≤c∧c<12)
def xP (p f:Int):Bool:=decide (0≤p∧p<4∧0≤f∧f<6)
def ae.cellC (G:ae) (c r g:Int):ae×Int×Int:=if iY c then G.add ⟨-1,g,r,c, -1,0⟩else(G,0,1)
def ae.funcC (G:ae) (p f r g:Int):ae×Int×Int:=if xP p f then G.add ⟨-1,g,r,0,p,f⟩else(G,0,1)
def ae.derive (G:ae) (p r g:Int):ae×Int×Int:=if G.has p then G.add ⟨p,g,r,0, -1,0⟩else(G,0,8)
structure OkN (s:Nat) (i:Nat) (n:bw):Prop where
 p0: -1≤n.parent
 p1:n.parent<i
 r:gX n.rights=true
 g:n.gate= -1∨0≤n.gate∧n.gate<s
 t:n.parent= -1→n.plugin= -1∧0≤n.cell∧n.cell<12∧n.func=0∨0≤n.plugin∧n.plugin<4∧0≤n.func∧n.func<6∧n.cell=0
structure ae.Wf (G:ae):Prop where
 few:G.nodes.length≤80
 gates:G.shut.length≤20
 node:∀ (i:Nat) (n:bw),G.nodes[i]? =some n→OkN G.shut.length i n
theorem OkN.more {s s' i:Nat} {n:bw} (h:OkN s i n) (hs:s≤s'):OkN s' i n:=
 ⟨h.p0,h.p1,h.r,h.g.imp id (fun⟨a,b⟩=>⟨a,by omega⟩),h.t⟩
theorem HS:ae.Wf ⟨[],[]⟩:=⟨by simp,by simp,fun i n h=>by simp at h⟩
theorem ae.Wf.gate {G:ae} (h:G.Wf):G.gate.1.Wf:=by
 unfold ae.gate
 split
 ·exact h
 ·have:=h.gates
  exact⟨h.few,by simp;omega,fun i n hn=>(h.node i n hn).more (by simp)⟩
theorem ae.Wf.cut {G:ae} (h:G.Wf) (k:Int):(G.cut k).1.Wf:=by
 unfold ae.cut
 split
 ·exact⟨h.few,by simpa using h.gates,fun i n hn=>by simpa using h.node i n hn⟩
 ·exact h
theorem ae.Wf.add {G:ae} (h:G.Wf) {n:bw} (h0: -1≤n.parent) (h1:n.parent<G.nodes.length)
  (ht:n.parent= -1→n.plugin= -1∧0≤n.cell∧n.cell<12∧n.func=0∨0≤n.plugin∧n.plugin<4∧0≤n.func∧n.func<6∧n.cell=0):(G.add n).1.Wf:=by
 unfold ae.add
 split
 ·exact h
 ·rename_i hr
  split
  ·exact h
  ·rename_i hg
   split
   ·exact h
   ·have:=h.few
    refine⟨by simp;omega,h.gates,fun i m hm=> ?_⟩
    show OkN G.shut.length i m
    simp only at hm
    by_cases hi:i<G.nodes.length
    ·rw[List.getElem?_append_left hi]at hm
     exact h.node i m hm
    ·rw[List.getElem?_append_right (by omega)]at hm
     have hi0:i - G.nodes.length=0:=by
      have:=(List.getElem?_eq_some_iff.1 hm).1
      simpa using this
     rw[hi0]at hm
     simp at hm
     subst hm
     refine⟨h0,by omega,by simpa using hr,?_,ht⟩
     by_cases e:n.gate= -1
     ·exact .inl e
     ·right
      have hgt:G.hasGate n.gate=true:=by
       cases hh:G.hasGate n.gate
       ·exact absurd ⟨e,hh⟩ hg
       ·rfl
      simpa[ae.hasGate]using hgt
theorem ae.Wf.cellC {G:ae} (h:G.Wf) (c r g:Int):(G.cellC c r g).1.Wf:=by
 unfold ae.cellC
 split
 ·rename_i hc
  simp[iY]at hc
  exact h.add (by simp) (by simp;omega) (fun _=> .inl ⟨rfl,hc.1,hc.2,rfl⟩)
 ·exact h
theorem ae.Wf.funcC {G:ae} (h:G.Wf) (p f r g:Int):(G.funcC p f r g).1.Wf:=by
 unfold ae.funcC
 split
 ·rename_i hc
  simp[xP]at hc
  exact h.add (by simp) (by simp;omega) (fun _=> .inr ⟨hc.1,hc.2.1,hc.2.2.1,hc.2.2.2,rfl⟩)
 ·exact h
theorem ae.Wf.derive {G:ae} (h:G.Wf) (p r g:Int):(G.derive p r g).1.Wf:=by
 unfold ae.derive
 split
 ·rename_i hc
  simp[ae.has]at hc
  exact h.add (by simp;omega) (by simp;omega) (fun e=>by simp at e;omega)
 ·exact h
def ae.pathF (G:ae):Nat→Int→List bw
 | 0,_=>[]
 | f+1,i=>if G.has i then(G.nodes.getD i.toNat bM)::G.pathF f (G.nodes.getD i.toNat bM).parent else[]
def ae.path (G:ae) (i:Int):List bw:=G.pathF (i.toNat+1) i
theorem ae.Wf.get {G:ae} (h:G.Wf) {i:Int} (hi:G.has i=true):OkN G.shut.length i.toNat (G.nodes.getD i.toNat bM):=by
 simp[ae.has]at hi
 have hl:i.toNat<G.nodes.length:=by omega
 have e:G.nodes[i.toNat]? =some (G.nodes.getD i.toNat bM):=by simp[List.getD,hl]
 exact h.node _ _ e
theorem ae.pathF_more {G:ae} (h:G.Wf):∀ (f:Nat) (i:Int),i.toNat<f→G.pathF f i=G.path i:=by
 intro f
 induction f using Nat.strongRecOn with
 | _ f ih=>
   intro i hi
   cases f with
   | zero=>omega
   | succ f=>
     unfold ae.path
     by_cases hh:G.has i=true
     ·have ok:=h.get hh
      have hp:=ok.p0
      have hp1:=ok.p1
      have hi0:0≤i:=by simp[ae.has]at hh;exact hh.1
      unfold ae.pathF
      rw[if_pos hh,if_pos hh]
      congr 1
      generalize (G.nodes.getD i.toNat bM).parent=p at*
      by_cases hpn:p<0
      ·have hno:G.has p=false:=by simp[ae.has];omega
       cases f with
       | zero=>cases hn:i.toNat<;>simp[ae.pathF,hno]
       | succ f=>cases hn:i.toNat<;>simp[ae.pathF,hno]
      ·have e1:=ih f (by omega) p (by omega)
       rw[e1]
       rcases Nat.lt_or_ge i.toNat (f+1)with h2 | h2
       ·have e2:=ih i.toNat (by omega) p (by omega)
        rw[e2]
       ·omega
     ·cases f<;>simp[ae.pathF,hh]
theorem ae.path_yes {G:ae} (h:G.Wf) {i:Int} (hi:G.has i=true):G.path i=(G.nodes.getD i.toNat bM)::G.path (G.nodes.getD i.toNat bM).parent:=by
 have ok:=h.get hi
 have hp1:=ok.p1
 have hp0:=ok.p0
 have hi0:0≤i:=by simp[ae.has]at hi;exact hi.1
 rw[ae.path,ae.pathF,if_pos hi]
 congr 1
 generalize (G.nodes.getD i.toNat bM).parent=p at*
 by_cases hpn:p<0
 ·have hno:G.has p=false:=by simp[ae.has];omega
  unfold ae.path
  cases i.toNat<;>simp[ae.pathF,hno]
 ·exact ae.pathF_more h _ _ (by omega)
theorem ae.path_no {G:ae} {i:Int} (hi:G.has i=false):G.path i=[]:=by
 rw[ae.path,ae.pathF,hi]
 rfl
def dm (G:ae) (n:bw):Bool:=decide (0≤n.gate) && !G.isOpen n.gate
def ae.rights (G:ae) (i:Int):Int:=if G.path i=[]∨(G.path i).any (dm G)then 0 else(G.path i).foldl (fun r n=>qe r n.rights) 15
def ae.target (G:ae) (i:Int):bw×Bool:=((G.path i).getLastD bM,!(G.path i).isEmpty)
def cM (l:List bw):List Int:=(l.filter fun n=>decide (0≤n.gate)).map (·.gate)
def ae.gatesC (G:ae) (i:Int):List Int:=cM (G.path i)
def aH (n:bw):List AV:=[.int .i64 n.parent,.int .i64 n.gate,.int .i64 n.rights,.int .i64 n.cell,.int .i64 n.plugin,.int .i64 n.func]
abbrev tN:TypeId:=132
abbrev tB:TypeId:=4
def qZ (h:AH) (J:Nat→Prop) (e:TypeId) (v:AV) (rows:List (List AV)):Prop:=(rows=[]∧v= .nils)∨∃ id,J id∧rows≠[]∧id<h.ids∧h.hw id=rows.length∧v= .isl (some id) e rows
def sF (h:AH) (F:Nat→Prop) (b:Nat) (e:TypeId) (v:AV) (rows:List (List AV)):Prop:=(rows=[]∧v= .nils)∨∃ q,F q∧q≠b∧q<h.n∧h.cell q=some rows∧v= .msl q 0 rows.length e
structure IsG (h:AH) (F J:Nat→Prop) (b:Nat) (G:ae):Prop where
 hb:F b∧b<h.n
 lt:(∀ k,F k→k<h.n)∧∀ j,J j→j<h.ids
 ex:∃ nv sv,h.cell b=some [[nv,sv]]∧qZ h J tN nv (G.nodes.map aH)∧sF h F b tB sv (G.shut.map fun x=>[.bool x])
structure Chg (F J:Nat→Prop) (h h':AH):Prop where
 n:h.n≤h'.n
 ids:h.ids≤h'.ids
 cell:∀ k,k<h.n→¬ F k→h'.cell k=h.cell k
 hw:∀ j,j<h.ids→¬ J j→h'.hw j=h.hw j
def cO (h:AH) (F J:Nat→Prop) (b:Nat) (h':AH) (G':ae):Prop:=
 ∃ F' J',IsG h' F' J' b G'∧Chg F J h h'∧(∀ k,F' k→F k∨h.n≤k)∧(∀ j,J' j→J j∨h.ids≤j)
def je:List Int→ae→Int→ae×Int×Int
 | [],G,n=>(G,n,0)
 | k::l,G,n=>if(G.derive n 15 k).2.2≠0 then((G.derive n 15 k).1,0,(G.derive n 15 k).2.2)else je l (G.derive n 15 k).1 (G.derive n 15 k).2.1
def aK:VD:= .mk 0 0 []
def dD (ks:List Int) (G:ae) (kind n:Int):ae×Int×Int:=if kind=4 then je ks G n else(G,n,0)
mutual
def cN (ks:List Int):VD→ae→ae×VD×Int
 | .mk kind n l,G=>
   if(dD ks G kind n).2.2≠0 then((dD ks G kind n).1,aK,(dD ks G kind n).2.2)
   else if(bK ks l (dD ks G kind n).1).2.2≠0 then((bK ks l (dD ks G kind n).1).1,aK,(bK ks l (dD ks G kind n).1).2.2)
   else((bK ks l (dD ks G kind n).1).1,.mk kind (dD ks G kind n).2.1 (bK ks l (dD ks G kind n).1).2.1,0)
def bK (ks:List Int):List VD→ae→ae×List VD×Int
 | [],G=>(G,[],0)
 | x::l,G=>
   if(cN ks x G).2.2≠0 then((cN ks x G).1,[],(cN ks x G).2.2)
   else((bK ks l (cN ks x G).1).1,(cN ks x G).2.1::(bK ks l (cN ks x G).1).2.1,(bK ks l (cN ks x G).1).2.2)
end
theorem vh (ks:List Int) (x:VD) (G:ae):cN ks x G=
  if(dD ks G x.kind x.n).2.2≠0 then((dD ks G x.kind x.n).1,aK,(dD ks G x.kind x.n).2.2)
  else if(bK ks x.l (dD ks G x.kind x.n).1).2.2≠0 then((bK ks x.l (dD ks G x.kind x.n).1).1,aK,(bK ks x.l (dD ks G x.kind x.n).1).2.2)
  else((bK ks x.l (dD ks G x.kind x.n).1).1,.mk x.kind (dD ks G x.kind x.n).2.1 (bK ks x.l (dD ks G x.kind x.n).1).2.1,0):=by
 cases x
 rfl
def oO (G:ae) (x:VD):Int:=
 if x.code≠0 then x.code else if x.gate then 9 else if x.caps.any fun n=> !cP (G.rights n) 2 then 9 else 0
def aN (ks:List Int) (G:ae) (x:VD):ae×VD×Int:=if oO G x≠0 then(G,aK,oO G x)else cN ks x G
theorem Jp (ks:List Int):∀ (G:ae) (n:Int),G.Wf→(je ks G n).1.Wf:=by
 induction ks with
 | nil=>intro G n h;exact h
 | cons k l ih=>
   intro G n h
   simp only[je]
   split
   ·exact h.derive _ _ _
   ·exact ih _ _ (h.derive _ _ _)
theorem xw {ks:List Int} {G:ae} {kind n:Int} (h:G.Wf):(dD ks G kind n).1.Wf:=by
 unfold dD
 split
 ·exact Jp ks G n h
 ·exact h
mutual
theorem rA (ks:List Int):∀ (x:VD) (G:ae),G.Wf→(cN ks x G).1.Wf
 | .mk kind n l,G,h=>by
   simp only[cN]
   split
   ·exact xw h
   ·split
    ·exact yI ks l _ (xw h)
    ·exact yI ks l _ (xw h)
theorem yI (ks:List Int):∀ (l:List VD) (G:ae),G.Wf→(bK ks l G).1.Wf
 | [],G,h=>h
 | x::l,G,h=>by
   simp only[bK]
   split
   ·exact rA ks x G h
   ·exact yI ks l _ (rA ks x G h)
end
theorem qw {ks:List Int} {G:ae} {x:VD} (h:G.Wf):(aN ks G x).1.Wf:=by
 unfold aN
 split
 ·exact h
 ·exact rA ks x G h
theorem Chg.refl (F J:Nat→Prop) (h:AH):Chg F J h h:=⟨Nat.le_refl _,Nat.le_refl _,fun _ _ _=>rfl,fun _ _ _=>rfl⟩
theorem ab.chg {h h':AH} (g:ab h h') (F J:Nat→Prop):Chg F J h h':=⟨g.n,g.ids,fun k hk _=>g.cell k hk,fun j hj _=>g.hw j hj⟩
theorem Chg.trans {F J:Nat→Prop} {a b c:AH} (x:Chg F J a b) (y:Chg F J b c):Chg F J a c:=
 ⟨Nat.le_trans x.n y.n,Nat.le_trans x.ids y.ids,fun k hk hF=>(y.cell k (Nat.lt_of_lt_of_le hk x.n) hF).trans (x.cell k hk hF),fun j hj hJ=>(y.hw j (Nat.lt_of_lt_of_le hj x.ids) hJ).trans (x.hw j hj hJ)⟩
theorem Chg.then {F J F' J':Nat→Prop} {a b c:AH} (x:Chg F J a b) (y:Chg F' J' b c) (hF:∀ k,F' k→F k∨a.n≤k) (hJ:∀ j,J' j→J j∨a.ids≤j):Chg F J a c:=
 ⟨Nat.le_trans x.n y.n,Nat.le_trans x.ids y.ids,
  fun k hk h1=>(y.cell k (Nat.lt_of_lt_of_le hk x.n) fun h2=>by rcases hF k h2 with h | h;exact h1 h;omega).trans (x.cell k hk h1),
  fun j hj h1=>(y.hw j (Nat.lt_of_lt_of_le hj x.ids) fun h2=>by rcases hJ j h2 with h | h;exact h1 h;omega).trans (x.hw j hj h1)⟩
theorem IsG.keep {h h':AH} {F J F2 J2:Nat→Prop} {b:Nat} {G:ae} (g:IsG h F J b G) (c:Chg F2 J2 h h') (hF:∀ k,F k→¬ F2 k) (hJ:∀ j,J j→¬ J2 j):IsG h' F J b G:=by
 obtain⟨nv,sv,h1,h2,h3⟩:=g.ex
 refine⟨⟨g.hb.1,Nat.lt_of_lt_of_le g.hb.2 c.n⟩,⟨fun k hk=>Nat.lt_of_lt_of_le (g.lt.1 k hk) c.n,fun j hj=>Nat.lt_of_lt_of_le (g.lt.2 j hj) c.ids⟩,nv,sv,(c.cell b g.hb.2 (hF b g.hb.1)).trans h1,?_,?_⟩
 ·rcases h2 with h2 | ⟨id,a1,a0,a2,a3,a4⟩
  ·exact .inl h2
  ·exact .inr ⟨id,a1,a0,Nat.lt_of_lt_of_le a2 c.ids,(c.hw id a2 (hJ id a1)).trans a3,a4⟩
 ·rcases h3 with h3 | ⟨q,a1,a2,a3,a4,a5⟩
  ·exact .inl h3
  ·exact .inr ⟨q,a1,a2,Nat.lt_of_lt_of_le a3 c.n,(c.cell q a3 (hF q a1)).trans a4,a5⟩
structure Asn where
 A:AH→(Nat→Prop)→(Nat→Prop)→Prop
 lt:∀ {h:AH} {F J:Nat→Prop},A h F J→(∀ k,F k→k<h.n)∧∀ j,J j→j<h.ids
 keep:∀ {h h':AH} {F J X Y:Nat→Prop},A h F J→Chg X Y h h'→(∀ k,F k→¬ X k)→(∀ j,J j→¬ Y j)→A h' F J
def zs (p:Prop):Asn where
 A _ F J:=p∧(∀ k,¬ F k)∧∀ j,¬ J j
 lt:=fun⟨_,a,b⟩=>⟨fun k hk=>absurd hk (a k),fun j hj=>absurd hj (b j)⟩
 keep:=fun h _ _ _=>h
def ah (b:Nat) (es:List (List AV)):Asn where
 A h F J:=(∀ k,F k↔k=b)∧(∀ j,¬ J j)∧b<h.n∧h.cell b=some es
 lt:=fun⟨a,b,c,_⟩=>⟨fun k hk=>by rw[(a k).1 hk];exact c,fun j hj=>absurd hj (b j)⟩
 keep:=fun⟨a,b,c,d⟩ x hF _=>⟨a,b,Nat.lt_of_lt_of_le c x.n,(x.cell _ c (hF _ ((a _).2 rfl))).trans d⟩
def idA (id n:Nat):Asn where
 A h F J:=(∀ k,¬ F k)∧(∀ j,J j↔j=id)∧id<h.ids∧h.hw id=n
 lt:=fun⟨a,b,c,_⟩=>⟨fun k hk=>absurd hk (a k),fun j hj=>by rw[(b j).1 hj];exact c⟩
 keep:=fun⟨a,b,c,d⟩ x _ hJ=>⟨a,b,Nat.lt_of_lt_of_le c x.ids,(x.hw _ c (hJ _ ((b _).2 rfl))).trans d⟩
def fw (X Y:Asn):Asn where
 A h F J:=∃ F1 J1 F2 J2,X.A h F1 J1∧Y.A h F2 J2∧(∀ k,F k↔F1 k∨F2 k)∧(∀ j,J j↔J1 j∨J2 j)∧(∀ k,F1 k→¬ F2 k)∧(∀ j,J1 j→¬ J2 j)
 lt:=fun⟨F1,J1,F2,J2,x,y,hF,hJ,_,_⟩=>⟨fun k hk=>((hF k).1 hk).elim ((X.lt x).1 k) ((Y.lt y).1 k),fun j hj=>((hJ j).1 hj).elim ((X.lt x).2 j) ((Y.lt y).2 j)⟩
 keep:=fun⟨F1,J1,F2,J2,x,y,hF,hJ,dF,dJ⟩ c nF nJ=>
  ⟨F1,J1,F2,J2,X.keep x c (fun k hk=>nF k ((hF k).2 (.inl hk))) (fun j hj=>nJ j ((hJ j).2 (.inl hj))),Y.keep y c (fun k hk=>nF k ((hF k).2 (.inr hk))) (fun j hj=>nJ j ((hJ j).2 (.inr hj))),hF,hJ,dF,dJ⟩
def rO {α:Type} (X:α→Asn):Asn where
 A h F J:=∃ a,(X a).A h F J
 lt:=fun⟨a,x⟩=>(X a).lt x
 keep:=fun⟨a,x⟩ c nF nJ=>⟨a,(X a).keep x c nF nJ⟩
def orA (X Y:Asn):Asn where
 A h F J:=X.A h F J∨Y.A h F J
 lt:=fun h=>h.elim X.lt Y.lt
 keep:=fun h c nF nJ=>h.imp (fun x=>X.keep x c nF nJ) (fun y=>Y.keep y c nF nJ)
def xU (p:Prop) (X:Asn):Asn where
 A h F J:=p∧X.A h F J
 lt:=fun h=>X.lt h.2
 keep:=fun h c nF nJ=>⟨h.1,X.keep h.2 c nF nJ⟩
def aW (b:Nat) (G:ae):Asn where
 A h F J:=IsG h F J b G
 lt:=fun g=>g.lt
 keep:=fun g c nF nJ=>g.keep c nF nJ
def bj:List Asn→Asn
 | []=>zs True
 | X::L=>fw X (bj L)
def Did (h:AH) (F J:Nat→Prop) (h':AH) (X:Asn):Prop:=∃ F' J',X.A h' F' J'∧Chg F J h h'∧(∀ k,F' k→F k∨h.n≤k)∧(∀ j,J' j→J j∨h.ids≤j)
structure eO where
 (plugin cell right node:Int)
structure StD where
 G:ae
 cells:List Int
 log:List eO
 kept:List VD
 left:Nat
abbrev aO:=List (Option (List XD))
def fP:XD:= .mk 0 0 0 []
def qY (n:Int):VD:= .mk 1 n []
def wj (n:Int):VD:= .mk 4 n []
def bQ (ms:aO) (p:Int):List XD:=(ms.getD p.toNat none).getD []
def dG (ms:aO) (p k:Int):XD:=(bQ ms p).getD k.toNat fP
def oI (k a b:Int):Int:=if k=1 then IntKind.wrap .i64 (a+b)else if k=2 then IntKind.wrap .i64 (a - b)else if k=3 then IntKind.wrap .i64 (a*b)else if k=4 then(if a<b then 1 else 0)else if k=5 then(if a=b then 1 else 0)else 0
def StD.ok (S:StD) (v:VD):StD×VD×Int:=(S,v,0)
def StD.no (S:StD) (c:Int):StD×VD×Int:=(S,aK,c)
def StD.tick (S:StD):StD:={S with left:=S.left - 1}
def Jf (S:StD) (q:ae×Int×Int):StD×VD×Int:=if q.2.2≠0 then({S with G:=q.1}).no q.2.2 else({S with G:=q.1}).ok (wj q.2.1)
def bS (p op k n:Int) (l:List VD) (S:StD):StD×VD×Int:=
 let a:=l.getD 0 aK
 let b:=l.getD 1 aK
 if op=6 then(if a.kind≠1∨b.kind≠1 then S.no 2 else S.ok (qY (oI k a.n b.n)))
 else if op=8 then(if(VD.mk 2 0 [a,b]).code≠0 then S.no 3 else S.ok (.mk 2 0 [a,b]))
 else if op=9 then(if a.kind≠2 then S.no 2 else S.ok (a.l.getD 0 aK))
 else if op=10 then(if a.kind≠2 then S.no 2 else S.ok (a.l.getD 1 aK))
 else if op=11 then(if(VD.mk 3 p [a]).code≠0 then S.no 3 else S.ok (.mk 3 p [a]))
 else if op=12 then(if a.kind≠3 then S.no 2 else if a.n≠p then S.no 10 else S.ok (a.l.getD 0 aK))
 else if op=13 then(if a.kind≠4 then S.no 2 else if cP (S.G.rights a.n) 0=false then S.no 9 else if 0≤(S.G.target a.n).1.plugin then S.no 2
  else({S with log:=S.log++[eO.mk p (S.G.target a.n).1.cell 1 a.n]}).ok (qY (S.cells.getD (S.G.target a.n).1.cell.toNat 0)))
 else if op=14 then(if a.kind≠4∨b.kind≠1 then S.no 2 else if cP (S.G.rights a.n) 1=false then S.no 9 else if 0≤(S.G.target a.n).1.plugin then S.no 2
  else({S with log:=S.log++[eO.mk p (S.G.target a.n).1.cell 2 a.n],cells:=S.cells.set (S.G.target a.n).1.cell.toNat b.n}).ok b)
 else if op=15 then(if a.kind≠4 then S.no 2 else Jf S (S.G.derive a.n k (-1)))
 else if op=16 then(if a.kind≠4 then S.no 2 else if S.G.gate.2.2≠0 then({S with G:=S.G.gate.1}).no S.G.gate.2.2
  else match S.G.gate.1.derive a.n 15 S.G.gate.2.1 with
   | (G',m,c)=>if c≠0 then({S with G:=G'}).no c else({S with G:=G'}).ok (.mk 2 0 [wj m,.mk 5 S.G.gate.2.1 []]))
 else if op=17 then(if a.kind≠5 then S.no 2 else({S with G:=(S.G.cut a.n).1}).ok aK)
 else if op=20 then({S with kept:=S.kept.set p.toNat a}).ok (S.kept.getD p.toNat aK)
 else S.no 0
structure u5 where
 (plugin func:Int)
 arg:VD
 gates:List Int
def eC (ms:aO) (v x:VD) (fr:Nat) (S:StD):StD×u5×Int:=
 let t:=(S.G.target v.n).1
 let z:u5:=⟨0,0,aK,[]⟩
 if v.kind≠4 then(S,z,2)else if cP (S.G.rights v.n) 3=false then(S,z,9)else if t.plugin<0 then(S,z,2)
 else if(ms.getD t.plugin.toNat none).isNone∨((bQ ms t.plugin).length:Int)≤t.func∨t.func<0 then(S,z,8)
 else if fr=20 then(S,z,4)
 else match aN (S.G.gatesC v.n) S.G x with
  | (G',y,c)=>({S with G:=G'},⟨t.plugin,t.func,y,S.G.gatesC v.n⟩,c)
def gK (gates:List Int) (v:VD) (S:StD):StD×VD×Int:=match aN gates S.G v with
 | (G',y,c)=>if c≠0 then({S with G:=G'}).no c else({S with G:=G'}).ok y
def evL (f:XD→StD→StD×VD×Int):List XD→StD→List VD→StD×List VD×Int
 | [],S,acc=>(S,acc,0)
 | x::l,S,acc=>match f x S with
   | (S',v,c)=>if c≠0 then(S',[],c)else evL f l S' (acc++[v])
def dZ (p:Int) (x:XD) (arg:VD) (names:List VD) (S:StD):Option VD:=
 if x.op=1 then some aK else if x.op=2 then some (qY x.n)else if x.op=3 then some arg
 else if x.op=4 then some (names.getD (names.length - 1 - x.k.toNat) aK)else if x.op=21 then some (S.kept.getD p.toNat aK)else none
def ofD (ms:aO):Nat→Int→XD→VD→List VD→Nat→StD→StD×VD×Int
 | 0,_,_,_,_,_,S=>S.no 12
 | N+1,p,x,arg,names,fr,S=>
   if S.left=0 then S.no 12
   else match dZ p x arg names S.tick with
   | some v=>S.tick.ok v
   | none=>
     if x.op=5 then(match ofD ms N p (x.l.getD 0 fP) arg names fr S.tick with
      | (S',v,c)=>if c≠0 then S'.no c else ofD ms N p (x.l.getD 1 fP) arg (names++[v]) fr S')
     else if x.op=7 then(match ofD ms N p (x.l.getD 0 fP) arg names fr S.tick with
      | (S',v,c)=>if c≠0 then S'.no c else if v.kind≠1 then S'.no 2 else if v.n≠0 then ofD ms N p (x.l.getD 1 fP) arg names fr S' else ofD ms N p (x.l.getD 2 fP) arg names fr S')
     else match evL (fun y S=>ofD ms N p y arg names fr S) x.l S.tick []with
      | (S',l,c)=>if c≠0 then S'.no c
        else if x.op=18 then(if fr=20 then S'.no 4 else ofD ms N p (dG ms p x.k) (l.getD 0 aK) [] (fr+1) S')
        else if x.op=19 then(match eC ms (l.getD 0 aK) (l.getD 1 aK) fr S' with
         | (S2,q,c)=>if c≠0 then S2.no c else match ofD ms N q.plugin (dG ms q.plugin q.func) q.arg [] (fr+1) S2 with
           | (S3,v,c)=>if c≠0 then S3.no c else gK q.gates v S3)
        else bS p x.op x.k x.n l S'
structure FrD where
 (plugin f:Int)
 pc:Nat
 arg:VD
 (stack names:List VD)
 asked:Bool
 gates:List Int
structure MaD where
 S:StD
 top:FrD
 below:List FrD
inductive kH where
 | go (m:MaD)
 | over (S:StD) (v:VD)
 | fail (S:StD) (c:Int)
def rQ:bq:=⟨0,0,0⟩
def fB (ms:aO) (p f:Int):List bq:=aF (dG ms p f) 0++[⟨105,0,0⟩]
def MaD.push (m:MaD) (S:StD) (st:List VD) (v:VD):kH:= .go {m with S:=S,top:={m.top with stack:=st++[v]}}
def MaD.done (m:MaD) (st:List VD) (q:StD×VD×Int):kH:=if q.2.2≠0 then .fail q.1 q.2.2 else m.push q.1 st q.2.1
def MaD.call (m:MaD) (S:StD) (st:List VD) (p f:Int) (arg:VD) (asked:Bool) (gates:List Int):kH:=
 if m.below.length+1=20 then .fail S 4 else .go ⟨S,⟨p,f,0,arg,[],[],asked,gates⟩,m.below++[{m.top with stack:=st}]⟩
def mI (st:List VD) (k:Nat):List VD:=st.drop (st.length - k)
def oG (st:List VD) (k:Nat):List VD:=st.take (st.length - k)
def mP (ms:aO) (m:MaD) (x:bq):kH:=
 let t:=m.top
 match dZ t.plugin (.mk x.op x.k x.n []) t.arg t.names m.S with
 | some v=>m.push m.S t.stack v
 | none=>
   if x.op=18 then m.call m.S (oG t.stack 1) t.plugin x.k ((mI t.stack 1).getD 0 aK) false []
   else if x.op=19 then(match eC ms ((mI t.stack 2).getD 0 aK) ((mI t.stack 2).getD 1 aK) (m.below.length+1) m.S with
    | (S',q,c)=>if c≠0 then .fail S' c else m.call S' (oG t.stack 2) q.plugin q.func q.arg true q.gates)
   else m.done (oG t.stack (bh x.op).toNat) (bS t.plugin x.op x.k x.n (mI t.stack (bh x.op).toNat) m.S)
def MaD.back (m:MaD):kH:=
 let v:=(mI m.top.stack 1).getD 0 aK
 let q:=if m.top.asked then gK m.top.gates v m.S else m.S.ok v
 if q.2.2≠0 then .fail q.1 q.2.2
 else match m.below.getLast? with
  | none=> .over q.1 q.2.1
  | some t=> .go ⟨q.1,{t with stack:=t.stack++[q.2.1]},m.below.dropLast⟩
def iD (ms:aO) (m0:MaD):kH:=
 let x:=(fB ms m0.top.plugin m0.top.f).getD m0.top.pc rQ
 let m:MaD:={m0 with top:={m0.top with pc:=m0.top.pc+1}}
 let t:=m.top
 if x.op=100 then(if m.S.left=0 then .fail m.S 12 else .go {m with S:=m.S.tick})
 else if x.op=101 then .go {m with top:={t with stack:=oG t.stack 1,names:=t.names++[(mI t.stack 1).getD 0 aK]}}
 else if x.op=102 then .go {m with top:={t with names:=t.names.dropLast}}
 else if x.op=103 then(let v:=(mI t.stack 1).getD 0 aK
  if v.kind≠1 then .fail m.S 2 else .go {m with top:={t with stack:=oG t.stack 1,pc:=if v.n=0 then x.k.toNat else t.pc}})
 else if x.op=104 then .go {m with top:={t with pc:=x.k.toNat}}
 else if x.op=105 then m.back
 else mP ms m x
theorem sa {α:Type} {c:Prop} [Decidable c] {a b:StD×α} {n:Nat} (h1:a.1.left=n) (h2:b.1.left=n):(if c then a else b).1.left=n:=by split<;>assumption
theorem L2 (S:StD) (q:ae×Int×Int):(Jf S q).1.left=S.left:=by
 unfold Jf
 exact sa rfl rfl
theorem GC (p op k n:Int) (l:List VD) (S:StD):(bS p op k n l S).1.left=S.left:=by
 unfold bS
 repeat' (first | rfl | exact L2 _ _ | refine sa ?_ ?_)
theorem tQ (ms:aO) (v x:VD) (fr:Nat) (S:StD):(eC ms v x fr S).1.left=S.left:=by
 unfold eC
 repeat' (first | rfl | refine sa ?_ ?_)
theorem HA (gates:List Int) (v:VD) (S:StD):(gK gates v S).1.left=S.left:=by
 unfold gK
 split
 exact sa rfl rfl
theorem vQ {f:XD→StD→StD×VD×Int} (hf:∀ x S,(f x S).1.left≤S.left):∀ (l:List XD) (S:StD) (acc:List VD),(evL f l S acc).1.left≤S.left
 | [],S,acc=>Nat.le_refl _
 | x::l,S,acc=>by
   have h1:=hf x S
   rw[evL]
   rcases hq:f x S with⟨S',v,c⟩
   rw[hq]at h1
   simp only at h1 ⊢
   split
   ·exact h1
   ·exact Nat.le_trans (vQ hf l S' _) h1
theorem mj (ms:aO):∀ (N:Nat) (p:Int) (x:XD) (arg:VD) (names:List VD) (fr:Nat) (S:StD),(ofD ms N p x arg names fr S).1.left≤S.left
 | 0,p,x,arg,names,fr,S=>Nat.le_refl _
 | N+1,p,x,arg,names,fr,S=>by
   have ih:=mj ms N
   have ht:S.tick.left≤S.left:=Nat.sub_le _ _
   rw[ofD]
   split
   ·exact Nat.le_refl _
   ·split
    ·exact ht
    ·split
     ·have h1:=ih p (x.l.getD 0 fP) arg names fr S.tick
      rcases hq:ofD ms N p (x.l.getD 0 fP) arg names fr S.tick with⟨S',v,c⟩
      rw[hq]at h1
      simp only at h1 ⊢
      split
      ·exact Nat.le_trans h1 ht
      ·exact Nat.le_trans (ih _ _ _ _ _ _) (Nat.le_trans h1 ht)
     ·split
      ·have h1:=ih p (x.l.getD 0 fP) arg names fr S.tick
       rcases hq:ofD ms N p (x.l.getD 0 fP) arg names fr S.tick with⟨S',v,c⟩
       rw[hq]at h1
       simp only at h1 ⊢
       split
       ·exact Nat.le_trans h1 ht
       ·split
        ·exact Nat.le_trans h1 ht
        ·split
         ·exact Nat.le_trans (ih _ _ _ _ _ _) (Nat.le_trans h1 ht)
         ·exact Nat.le_trans (ih _ _ _ _ _ _) (Nat.le_trans h1 ht)
      ·have h1:=vQ (f:=fun y S=>ofD ms N p y arg names fr S) (fun y S=>ih p y arg names fr S) x.l S.tick []
       rcases hq:evL (fun y S=>ofD ms N p y arg names fr S) x.l S.tick []with⟨S',l,c⟩
       rw[hq]at h1
       simp only at h1 ⊢
       split
       ·exact Nat.le_trans h1 ht
       ·split
        ·split
         ·exact Nat.le_trans h1 ht
         ·exact Nat.le_trans (ih _ _ _ _ _ _) (Nat.le_trans h1 ht)
        ·split
         ·have h2:=tQ ms (l.getD 0 aK) (l.getD 1 aK) fr S'
          rcases hq2:eC ms (l.getD 0 aK) (l.getD 1 aK) fr S' with⟨S2,q,c2⟩
          rw[hq2]at h2
          simp only at h2 ⊢
          split
          ·exact Nat.le_trans (Nat.le_of_eq h2) (Nat.le_trans h1 ht)
          ·have h3:=ih q.plugin (dG ms q.plugin q.func) q.arg [] (fr+1) S2
           rcases hq3:ofD ms N q.plugin (dG ms q.plugin q.func) q.arg [] (fr+1) S2 with⟨S3,v,c3⟩
           rw[hq3]at h3
           simp only at h3 ⊢
           split
           ·exact Nat.le_trans h3 (Nat.le_trans (Nat.le_of_eq h2) (Nat.le_trans h1 ht))
           ·rw[HA]
            exact Nat.le_trans h3 (Nat.le_trans (Nat.le_of_eq h2) (Nat.le_trans h1 ht))
         ·rw[GC]
          exact Nat.le_trans h1 ht
def StD.mu (S:StD):Nat:=S.log.length+S.left
structure StD.Good (S:StD):Prop where
 wf:S.G.Wf
 cells:S.cells.length=12
 kept:S.kept.length=4
 keptV:∀ v∈S.kept,v.code=0
theorem jh:aK.code=0:=by decide
theorem ta (n:Int):(qY n).code=0:=rfl
theorem fL {l:List VD} (h:∀ v∈l,v.code=0) (i:Nat):(l.getD i aK).code=0:=by
 by_cases hi:i<l.length
 ·simp only[List.getD,List.getElem?_eq_getElem hi,Option.getD_some]
  exact h _ (List.getElem_mem hi)
 ·simp only[List.getD,List.getElem?_eq_none (Nat.le_of_not_lt hi),Option.getD_none]
  exact jh
theorem uO:∀ {l:List VD},dt l=0→∀ x∈l,x.fault=0
 | [],_,x,hx=>by simp at hx
 | y::l,h,x,hx=>by
   rw[iu]at h
   split at h
   ·rename_i h1;exact absurd h h1
   ·rename_i h1
    rcases List.mem_cons.1 hx with rfl | hx
    ·omega
    ·exact uO h x hx
theorem fY {v:VD} (h:v.code=0):v.size≤40∧di v.kind v.n v.l.length=0∧∀ x∈v.l,x.code=0:=by
 unfold VD.code at h
 split at h
 ·cases h
 ·rename_i hs
  rw[v.fault_eq]at h
  split at h
  ·rename_i h1;exact absurd h h1
  ·rename_i h1
   refine⟨by omega,by omega,fun x hx=> ?_⟩
   unfold VD.code
   have:=VD.size_mem hx
   rw[if_neg (by omega)]
   exact uO h x hx
theorem Dy {kind n:Int} {l:List VD} (hs:(VD.mk kind n l).size≤40) (hh:di kind n l.length=0) (hl:∀ x∈l,x.code=0):(VD.mk kind n l).code=0:=by
 have key:∀ l:List VD,(∀ x∈l,x.code=0)→dt l=0:=by
  intro l hl
  induction l with
  | nil=>rfl
  | cons x l ih=>
    have h1:=hl x (by simp)
    unfold VD.code at h1
    split at h1
    ·cases h1
    ·rw[iu,if_neg (by omega)]
     exact ih fun y hy=>hl y (by simp[hy])
 unfold VD.code
 rw[if_neg (by omega)]
 show(if di kind n l.length≠0 then di kind n l.length else dt l)=0
 rw[if_neg (by omega)]
 exact key l hl
theorem ow {v:VD} (h:v.code=0):(v.kind=2→∃ a b,v.l=[a,b])∧(v.kind=3→∃ a,v.l=[a]):=by
 obtain⟨_,h1,_⟩:=fY h
 unfold di at h1
 split at h1
 ·cases h1
 ·split at h1
  ·cases h1
  ·rename_i h2
   constructor
   ·intro h3
    simp only[ff,h3,if_true,Decidable.not_not]at h2
    match hl:v.l,h2 with
    | [a,b],_=>exact⟨a,b,rfl⟩
   ·intro h3
    simp only[ff,h3,if_true,Decidable.not_not]at h2
    rw[if_neg (by decide)]at h2
    match hl:v.l,h2 with
    | [a],_=>exact⟨a,rfl⟩
theorem ED {n:Int} (h:0≤n):(wj n).code=0:=Dy (by simp[VD.size,cg]) (by simp[di,ff];omega) (by simp)
theorem LU {n:Int} (h:0≤n):(VD.mk 5 n []).code=0:=Dy (by simp[VD.size,cg]) (by simp[di,ff];omega) (by simp)
mutual
theorem AR (ks:List Int):∀ (x:VD) (G:ae),(cN ks x G).2.2=0→(cN ks x G).2.1.size=x.size
 | .mk kind n l,G,h=>by
   simp only[cN]at h ⊢
   split at h
   ·rename_i h1;exact absurd h h1
   ·rename_i h1
    split at h
    ·rename_i h2;exact absurd h h2
    ·rename_i h2
     rw[if_neg h1,if_neg h2]
     simp only[VD.size]
     rw[(qF ks l _ (by omega)).1]
theorem qF (ks:List Int):∀ (l:List VD) (G:ae),(bK ks l G).2.2=0→cg (bK ks l G).2.1=cg l∧(bK ks l G).2.1.length=l.length
 | [],G,h=>⟨rfl,rfl⟩
 | x::l,G,h=>by
   simp only[bK]at h ⊢
   split at h
   ·rename_i h1;exact absurd h h1
   ·rename_i h1
    rw[if_neg h1]
    have h2:=qF ks l _ h
    simp only[cg,List.length_cons]
    rw[AR ks x G (by omega),h2.1,h2.2]
    exact⟨rfl,rfl⟩
end
theorem qI {G:ae} {n r k:Int}:0≤(G.derive n r k).2.1:=by
 unfold ae.derive ae.add
 split
 ·split
  ·exact Int.le_refl _
  ·split
   ·exact Int.le_refl _
   ·split
    ·exact Int.le_refl _
    ·exact Int.natCast_nonneg _
 ·exact Int.le_refl _
theorem SR (ks:List Int):∀ (G:ae) (n:Int),0≤n→0≤(je ks G n).2.1:=by
 induction ks with
 | nil=>intro G n h;exact h
 | cons k l ih=>
   intro G n h
   simp only[je]
   split
   ·exact Int.le_refl _
   ·exact ih _ _ qI
mutual
theorem yW (ks:List Int):∀ (x:VD) (G:ae),x.fault=0→(cN ks x G).2.2=0→(cN ks x G).2.1.fault=0
 | .mk kind n l,G,hf,h=>by
   change (if di kind n l.length≠0 then di kind n l.length else dt l)=0 at hf
   split at hf
   ·rename_i h1;exact absurd hf h1
   rename_i hh
   simp only[cN]at h ⊢
   split at h
   ·rename_i h1;exact absurd h h1
   ·rename_i h1
    split at h
    ·rename_i h2;exact absurd h h2
    ·rename_i h2
     rw[if_neg h1,if_neg h2]
     have hl:=(qF ks l (dD ks G kind n).1 (by omega)).2
     show(if di kind _ (bK ks l (dD ks G kind n).1).2.1.length≠0 then di kind _ (bK ks l (dD ks G kind n).1).2.1.length else dt (bK ks l (dD ks G kind n).1).2.1)=0
     rw[hl,if_neg]
     ·exact uJ ks l _ hf (by omega)
     ·unfold dD
      by_cases h4:kind=4
      ·rw[if_pos h4]
       have:0≤n:=by
        unfold di at hh
        split at hh
        ·simp at hh
        ·split at hh
         ·simp at hh
         ·split at hh
          ·simp at hh
          ·split at hh
           ·simp at hh
           ·omega
       have h5:=SR ks G n this
       unfold di at hh ⊢
       subst h4
       rw[if_neg (by omega)]at hh ⊢
       split at hh
       ·simp at hh
       ·rename_i h6
        rw[if_neg h6,if_neg (by omega),if_neg (by omega)]
        decide
      ·rw[if_neg h4]
       exact hh
theorem uJ (ks:List Int):∀ (l:List VD) (G:ae),dt l=0→(bK ks l G).2.2=0→dt (bK ks l G).2.1=0
 | [],G,hf,h=>rfl
 | x::l,G,hf,h=>by
   rw[iu]at hf
   split at hf
   ·rename_i h1;exact absurd hf h1
   rename_i hx
   simp only[bK]at h ⊢
   split at h
   ·rename_i h1;exact absurd h h1
   ·rename_i h1
    rw[if_neg h1,iu,if_neg (by rw[yW ks x G (by omega) (by omega)];decide)]
    exact uJ ks l _ hf h
end
theorem mW {ks:List Int} {G:ae} {x:VD} (h:(aN ks G x).2.2=0):(aN ks G x).2.1.code=0:=by
 unfold aN at h ⊢
 split at h
 ·rename_i h1;exact absurd h h1
 ·rename_i h1
  rw[if_neg h1]
  have hx:x.code=0:=by
   unfold oO at h1
   split at h1
   ·rename_i h2;exact absurd h1 (by simpa using h2)
   ·omega
  have hs:=(fY hx).1
  unfold VD.code at hx ⊢
  rw[if_neg (by omega)]at hx
  rw[if_neg (by rw[AR ks x G h];omega)]
  exact yW ks x G hx h
structure dv (n:Nat) (S:StD) (q:StD×VD×Int):Prop where
 good:q.1.Good
 mu:q.1.mu≤S.mu+n
 left:q.1.left≤S.left
 val:q.2.2=0→q.2.1.code=0
theorem StD.Good.with {S:StD} (h:S.Good) {G:ae} (hG:G.Wf):({S with G:=G}:StD).Good:=⟨hG,h.cells,h.kept,h.keptV⟩
theorem dv.no {S S':StD} {n:Nat} {c:Int} (h:S'.Good) (h1:S'.mu≤S.mu+n) (h2:S'.left≤S.left):dv n S (S'.no c):=⟨h,h1,h2,fun _=>jh⟩
theorem dv.ok {S S':StD} {n:Nat} {v:VD} (h:S'.Good) (h1:S'.mu≤S.mu+n) (h2:S'.left≤S.left) (hv:v.code=0):dv n S (S'.ok v):=⟨h,h1,h2,fun _=>hv⟩
theorem dv.ite {S:StD} {n:Nat} {p:Prop} [Decidable p] {a b:StD×VD×Int} (h1:p→dv n S a) (h2:¬ p→dv n S b):dv n S (if p then a else b):=by
 split
 ·exact h1 ‹_›
 ·exact h2 ‹_›
theorem OJ {p op k n:Int} {l:List VD} {S:StD} (hS:S.Good) (hl:∀ v∈l,v.code=0):dv 1 S (bS p op k n l S):=by
 have ha:=fL hl 0
 have hb:=fL hl 1
 have m0:S.mu≤S.mu+1:=Nat.le_succ _
 have no:∀ {c:Int},dv 1 S (S.no c):= .no hS m0 (Nat.le_refl _)
 have ok:∀ {v:VD},v.code=0→dv 1 S (S.ok v):=fun hv=> .ok hS m0 (Nat.le_refl _) hv
 unfold bS
 refine .ite (fun _=> .ite (fun _=>no) fun _=>ok (ta _)) fun h6=> ?_
 refine .ite (fun _=> .ite (fun _=>no) fun h=>ok (by simpa using h)) fun h8=> ?_
 refine .ite (fun _=> .ite (fun _=>no) fun h=>ok (fL (fY ha).2.2 0)) fun h9=> ?_
 refine .ite (fun _=> .ite (fun _=>no) fun h=>ok (fL (fY ha).2.2 1)) fun h10=> ?_
 refine .ite (fun _=> .ite (fun _=>no) fun h=>ok (by simpa using h)) fun h11=> ?_
 refine .ite (fun _=> .ite (fun _=>no) fun _=> .ite (fun _=>no) fun _=>ok (fL (fY ha).2.2 0)) fun h12=> ?_
 refine .ite (fun _=> .ite (fun _=>no) fun _=> .ite (fun _=>no) fun _=> .ite (fun _=>no) fun _=> ?_) fun h13=> ?_
 ·exact .ok ⟨hS.wf,hS.cells,hS.kept,hS.keptV⟩ (by simp[StD.mu];omega) (Nat.le_refl _) (ta _)
 refine .ite (fun _=> .ite (fun _=>no) fun _=> .ite (fun _=>no) fun _=> .ite (fun _=>no) fun _=> ?_) fun h14=> ?_
 ·exact .ok ⟨hS.wf,by simpa using hS.cells,hS.kept,hS.keptV⟩ (by simp[StD.mu];omega) (Nat.le_refl _) hb
 refine .ite (fun _=> .ite (fun _=>no) fun _=> ?_) fun h15=> ?_
 ·unfold Jf
  exact .ite (fun _=> .no (hS.with (hS.wf.derive _ _ _)) m0 (Nat.le_refl _)) fun _=> .ok (hS.with (hS.wf.derive _ _ _)) m0 (Nat.le_refl _) (ED qI)
 refine .ite (fun _=> .ite (fun _=>no) fun _=> .ite (fun _=> .no (hS.with hS.wf.gate) m0 (Nat.le_refl _)) fun hg=> ?_) fun h16=> ?_
 ·have hw:=hS.wf.gate.derive (l.getD 0 aK).n 15 S.G.gate.2.1
  have hn:=qI (G:=S.G.gate.1) (n:=(l.getD 0 aK).n) (r:=15) (k:=S.G.gate.2.1)
  generalize S.G.gate.1.derive (l.getD 0 aK).n 15 S.G.gate.2.1=q at hw hn ⊢
  obtain⟨G',m,c⟩:=q
  refine .ite (fun _=> .no (hS.with hw) m0 (Nat.le_refl _)) fun _=> .ok (hS.with hw) m0 (Nat.le_refl _) ?_
  refine Dy (by simp[VD.size,cg,wj]) (by simp[di,ff]) ?_
  intro x hx
  rcases List.mem_cons.1 hx with rfl | hx
  ·exact ED hn
  ·simp only[List.mem_singleton]at hx
   subst hx
   refine LU ?_
   unfold ae.gate
   split
   ·exact Int.le_refl _
   ·exact Int.natCast_nonneg _
 refine .ite (fun _=> .ite (fun _=>no) fun _=> ?_) fun h17=> ?_
 ·exact .ok (hS.with (hS.wf.cut _)) m0 (Nat.le_refl _) jh
 refine .ite (fun _=> ?_) fun h20=>no
 refine .ok ⟨hS.wf,hS.cells,by simpa using hS.kept,fun v hv=> ?_⟩ m0 (Nat.le_refl _) (fL hS.keptV _)
 rcases List.mem_or_eq_of_mem_set hv with h | rfl
 ·exact hS.keptV v h
 ·exact ha
theorem AN (G:ae):∀ (f:Nat) (i:Int),(G.pathF f i).length≤f
 | 0,_=>by simp[ae.pathF]
 | f+1,i=>by
   unfold ae.pathF
   split
   ·have:=AN G f (G.nodes.getD i.toNat bM).parent
    simp only[List.length_cons]
    omega
   ·simp
theorem sP {G:ae} (h:G.Wf) {i:Int}:(G.gatesC i).length≤80:=by
 unfold ae.gatesC cM
 rw[List.length_map]
 refine Nat.le_trans (List.length_filter_le _ _) ?_
 cases hh:G.has i with
 | false=>rw[ae.path_no hh];simp
 | true=>
   have:=AN G (i.toNat+1) i
   simp only[ae.has,decide_eq_true_eq]at hh
   have:=h.few
   unfold ae.path
   omega
theorem JK {ms:aO} {v x:VD} {fr:Nat} {S:StD} (hS:S.Good):(eC ms v x fr S).1.Good∧(eC ms v x fr S).1.mu≤S.mu∧((eC ms v x fr S).2.2=0→(eC ms v x fr S).2.1.arg.code=0∧(eC ms v x fr S).2.1.gates.length≤80∧
  (ms.getD (eC ms v x fr S).2.1.plugin.toNat none).isSome∧0≤(eC ms v x fr S).2.1.plugin∧0≤(eC ms v x fr S).2.1.func∧(eC ms v x fr S).2.1.func.toNat<(bQ ms (eC ms v x fr S).2.1.plugin).length):=by
 unfold eC
 simp only
 split
 ·exact⟨hS,Nat.le_refl _,fun h=>by simp at h⟩
 split
 ·exact⟨hS,Nat.le_refl _,fun h=>by simp at h⟩
 split
 ·exact⟨hS,Nat.le_refl _,fun h=>by simp at h⟩
 rename_i hp
 split
 ·exact⟨hS,Nat.le_refl _,fun h=>by simp at h⟩
 rename_i hn
 simp only[not_or]at hn
 split
 ·exact⟨hS,Nat.le_refl _,fun h=>by simp at h⟩
 refine⟨hS.with (qw hS.wf),Nat.le_refl _,fun h=>⟨mW h,?_,by simpa[Option.isNone_iff_eq_none,Option.isSome_iff_ne_none]using hn.1,by simp only;omega,by simp only;omega,?_⟩⟩
 ·exact sP hS.wf
 ·have:=hn.2.1;have:=hn.2.2
  simp only
  omega
theorem Og {gates:List Int} {v:VD} {S:StD} (hS:S.Good):dv 0 S (gK gates v S):=by
 unfold gK
 have hw:=qw (ks:=gates) (x:=v) hS.wf
 have hc:=mW (ks:=gates) (G:=S.G) (x:=v)
 generalize aN gates S.G v=q at hw hc ⊢
 obtain⟨G',y,c⟩:=q
 refine .ite (fun _=> .no (hS.with hw) (Nat.le_refl _) (Nat.le_refl _)) fun h=> .ok (hS.with hw) (Nat.le_refl _) (Nat.le_refl _) (hc (by simpa using h))
def Ug (S:StD) (q:StD×VD×Int):Prop:=dv 0 S q∧(q.2.2=0→q.1.left<S.left)
theorem dv.trans {n k:Nat} {S S1:StD} {q:StD×VD×Int} (h1:S1.mu≤S.mu+n) (h2:S1.left≤S.left) (h:dv k S1 q):dv (n+k) S q:=⟨h.good,by have:=h.mu;omega,Nat.le_trans h.left h2,h.val⟩
theorem dv.weak {n k:Nat} {S:StD} {q:StD×VD×Int} (h:dv k S q) (hk:k≤n):dv n S q:=⟨h.good,by have:=h.mu;omega,h.left,h.val⟩
theorem BZ {f:XD→StD→StD×VD×Int} (hf:∀ x S,S.Good→Ug S (f x S)):∀ (l:List XD) (S:StD) (acc:List VD),S.Good→(∀ v∈acc,v.code=0)→
  (evL f l S acc).1.Good∧(evL f l S acc).1.mu≤S.mu∧(evL f l S acc).1.left≤S.left∧((evL f l S acc).2.2=0→(∀ v∈(evL f l S acc).2.1,v.code=0)∧(evL f l S acc).1.left+(evL f l S acc).2.1.length≤S.left+acc.length)
 | [],S,acc,hS,ha=>⟨hS,Nat.le_refl _,Nat.le_refl _,fun _=>⟨ha,Nat.le_refl _⟩⟩
 | x::l,S,acc,hS,ha=>by
   obtain⟨h1,h2⟩:=hf x S hS
   rw[evL]
   rcases hq:f x S with⟨S',v,c⟩
   rw[hq]at h1 h2
   simp only at h2 ⊢
   split
   ·rename_i hc
    exact⟨h1.good,h1.mu,h1.left,fun e=>absurd e hc⟩
   ·rename_i hc
    have hc:c=0:=by omega
    have h3:=h2 hc
    have hv:=h1.val hc
    obtain⟨g1,g2,g3,g4⟩:=BZ hf l S' (acc++[v]) h1.good (fun w hw=>by
     rcases List.mem_append.1 hw with h | h
     ·exact ha w h
     ·simp only[List.mem_singleton]at h
      rw[h];exact hv)
    have hm:S'.mu≤S.mu:=h1.mu
    have hle:S'.left≤S.left:=h1.left
    refine⟨g1,Nat.le_trans g2 hm,Nat.le_trans g3 hle,fun e=>⟨(g4 e).1,?_⟩⟩
    have:=(g4 e).2
    simp only[List.length_append,List.length_singleton]at this
    omega
theorem sq {S:StD} (h:S.left≠0):S.tick.mu+1=S.mu∧S.tick.left+1=S.left:=by
 simp only[StD.mu,StD.tick]
 omega
theorem StD.Good.tick {S:StD} (h:S.Good):S.tick.Good:=⟨h.wf,h.cells,h.kept,h.keptV⟩
theorem GR {p:Int} {x:XD} {arg:VD} {names:List VD} {S:StD} {v:VD} (hS:S.Good) (ha:arg.code=0) (hn:∀ v∈names,v.code=0) (h:dZ p x arg names S=some v):v.code=0:=by
 unfold dZ at h
 split at h
 ·injection h with h;rw[←h];exact jh
 split at h
 ·injection h with h;rw[←h];exact ta _
 split at h
 ·injection h with h;rw[←h];exact ha
 split at h
 ·injection h with h;rw[←h];exact fL hn _
 split at h
 ·injection h with h;rw[←h];exact fL hS.keptV _
 cases h
theorem fk (ms:aO):∀ (N:Nat) (p:Int) (x:XD) (arg:VD) (names:List VD) (fr:Nat) (S:StD),S.Good→arg.code=0→(∀ v∈names,v.code=0)→Ug S (ofD ms N p x arg names fr S)
 | 0,p,x,arg,names,fr,S,hS,_,_=>⟨.no hS (Nat.le_refl _) (Nat.le_refl _),fun h=>by simp[ofD,StD.no]at h⟩
 | N+1,p,x,arg,names,fr,S,hS,ha,hn=>by
   have ih:=fk ms N
   rw[ofD]
   split
   ·exact⟨.no hS (Nat.le_refl _) (Nat.le_refl _),fun h=>by simp[StD.no]at h⟩
   rename_i h0
   obtain⟨tm,tl⟩:=sq h0
   -- what comes behind the tick
   suffices h:∀ q,dv 1 S.tick q→Ug S q by
    refine h _ ?_
    split
    ·rename_i v hv
     exact .ok hS.tick (Nat.le_succ _) (Nat.le_refl _) (GR hS.tick ha hn hv)
    ·split
     ·have h1:=(ih p (x.l.getD 0 fP) arg names fr S.tick hS.tick ha hn).1
      rcases hq:ofD ms N p (x.l.getD 0 fP) arg names fr S.tick with⟨S',v,c⟩
      rw[hq]at h1
      refine .ite (fun _=>(dv.no (c:=c) h1.good h1.mu h1.left).weak (Nat.zero_le _)) fun hc=> ?_
      have h2:=(ih p (x.l.getD 1 fP) arg (names++[v]) fr S' h1.good ha (fun w hw=>by
       rcases List.mem_append.1 hw with h | h
       ·exact hn w h
       ·simp only[List.mem_singleton]at h
        rw[h];exact h1.val (by simpa using hc))).1
      exact(dv.trans h1.mu h1.left h2).weak (Nat.zero_le _)
     ·split
      ·have h1:=(ih p (x.l.getD 0 fP) arg names fr S.tick hS.tick ha hn).1
       rcases hq:ofD ms N p (x.l.getD 0 fP) arg names fr S.tick with⟨S',v,c⟩
       rw[hq]at h1
       refine .ite (fun _=>(dv.no (c:=c) h1.good h1.mu h1.left).weak (Nat.zero_le _)) fun hc=> ?_
       refine .ite (fun _=>(dv.no (c:=2) h1.good h1.mu h1.left).weak (Nat.zero_le _)) fun _=> ?_
       refine .ite (fun _=> ?_) fun _=> ?_
       ·exact(dv.trans h1.mu h1.left (ih p (x.l.getD 1 fP) arg names fr S' h1.good ha hn).1).weak (Nat.zero_le _)
       ·exact(dv.trans h1.mu h1.left (ih p (x.l.getD 2 fP) arg names fr S' h1.good ha hn).1).weak (Nat.zero_le _)
      ·have h1:=BZ (f:=fun y S=>ofD ms N p y arg names fr S) (fun y S h=>ih p y arg names fr S h ha hn) x.l S.tick [] hS.tick (by simp)
       rcases hq:evL (fun y S=>ofD ms N p y arg names fr S) x.l S.tick []with⟨S',l,c⟩
       rw[hq]at h1
       obtain⟨g1,g2,g3,g4⟩:=h1
       simp only at g1 g2 g3 g4
       refine .ite (fun _=>(dv.no (n:=0) (c:=c) g1 g2 g3).weak (Nat.zero_le _)) fun hc=> ?_
       have g5:=(g4 (by simpa using hc)).1
       refine .ite (fun _=> .ite (fun _=>(dv.no (n:=0) (c:=4) g1 g2 g3).weak (Nat.zero_le _)) fun _=> ?_) fun _=> .ite (fun _=> ?_) fun _=> ?_
       ·exact(dv.trans (n:=0) g2 g3 (ih p (dG ms p x.k) (l.getD 0 aK) [] (fr+1) S' g1 (fL g5 0) (by simp)).1).weak (Nat.zero_le _)
       ·obtain⟨a1,a2,a3⟩:=JK (ms:=ms) (v:=l.getD 0 aK) (x:=l.getD 1 aK) (fr:=fr) g1
        have a4:=tQ ms (l.getD 0 aK) (l.getD 1 aK) fr S'
        rcases hq2:eC ms (l.getD 0 aK) (l.getD 1 aK) fr S' with⟨S2,q,c2⟩
        rw[hq2]at a1 a2 a3 a4
        simp only at a1 a2 a3 a4
        have b1:S2.mu≤S.tick.mu+0:=Nat.le_trans a2 g2
        have b2:S2.left≤S.tick.left:=Nat.le_trans (Nat.le_of_eq a4) g3
        refine .ite (fun _=>(dv.no (n:=0) (c:=c2) a1 b1 b2).weak (Nat.zero_le _)) fun hc2=> ?_
        have h3:=(ih q.plugin (dG ms q.plugin q.func) q.arg [] (fr+1) S2 a1 (a3 (by simpa using hc2)).1 (by simp)).1
        rcases hq3:ofD ms N q.plugin (dG ms q.plugin q.func) q.arg [] (fr+1) S2 with⟨S3,v,c3⟩
        rw[hq3]at h3
        have h4:=dv.trans b1 b2 h3
        refine .ite (fun _=>(dv.no (c:=c3) h4.good h4.mu h4.left).weak (Nat.zero_le _)) fun _=> ?_
        exact(dv.trans h4.mu h4.left (Og h3.good)).weak (Nat.zero_le _)
       ·exact dv.trans (n:=0) g2 g3 (OJ g1 g5)
   intro q h
   have h1:=h.mu
   have h2:=h.left
   exact⟨⟨h.good,by omega,by omega,h.val⟩,fun _=>by omega⟩
structure FrD.Good (ms:aO) (t:FrD):Prop where
 p0:0≤t.plugin
 there:(ms.getD t.plugin.toNat none).isSome
 f0:0≤t.f
 f1:t.f.toNat<(bQ ms t.plugin).length
 arg:t.arg.code=0
 names:∀ v∈t.names,v.code=0
 stack:∀ v∈t.stack,v.code=0
 gates:t.gates.length≤80
structure MaD.Good (ms:aO) (m:MaD):Prop where
 S:m.S.Good
 top:m.top.Good ms
 mu:m.S.mu≤1000000
 stk:m.top.stack.length+m.S.left≤100000
 nms:m.top.names.length+m.S.left≤100000
 few:m.below.length+1≤20
structure Lv (m:MaD) (x:bq):Prop where
 kind:(1≤x.op∧x.op≤21∧x.op≠5∧x.op≠7)∨(100≤x.op∧x.op≤105)
 one:x.op=101∨x.op=103∨x.op=105→m.top.stack≠[]
 nam:x.op=102→m.top.names≠[]
 jump:x.op=103∨x.op=104→0≤x.k
 parts:x.op<100→(bh x.op).toNat≤m.top.stack.length
 var:x.op=4→0≤x.k∧x.k<m.top.names.length
structure Ok (ms:aO) (m:MaD):Prop where
 good:m.Good ms
 pc:m.top.pc<(fB ms m.top.plugin m.top.f).length
 op:Lv m ((fB ms m.top.plugin m.top.f).getD m.top.pc rQ)
inductive i9 (ms:aO):MaD→kH→Prop
 | go {m m':MaD} {r:kH}:Ok ms m→iD ms m= .go m'→i9 ms m' r→i9 ms m r
 | over {m:MaD} {S:StD} {v:VD}:Ok ms m→iD ms m= .over S v→i9 ms m (.over S v)
 | fail {m:MaD} {S:StD} {c:Int}:Ok ms m→iD ms m= .fail S c→i9 ms m (.fail S c)
def nO (ms:aO):Prop:=∀ p:Int,∀ x∈bQ ms p,x.fault (bQ ms p).length 0=0
def kM (ms:aO):Prop:=∀ p f:Int,(fB ms p f).length≤1000000000
def dh (ms:aO) (p f:Int) (v:VD) (fuel:Int) (S:StD):StD×VD×Int×Int:=
 if fuel<0∨2000<fuel∨p<0∨4≤p then(S,aK,0,1)
 else if(ms.getD p.toNat none).isNone∨f<0∨((bQ ms p).length:Int)≤f then(S,aK,0,8)
 else if v.code≠0 then(S,aK,0,v.code)
 else match ofD ms fuel.toNat p (dG ms p f) v [] 1 {S with left:=fuel.toNat}with
  | (S',w,c)=>({S' with left:=S.left},if c=0 then w else aK,fuel - (S'.left:Int),c)
def dY (L:List XD):AV:= .isl none 174 (L.map fun x=>[.isl none 184 ((aF x 0++[(⟨105,0,0⟩:bq)]).map fun i:bq=>[.int .i64 i.op,.int .i64 i.k,.int .i64 i.n])])
abbrev tEn:TypeId:=137
abbrev tL:TypeId:=2
def dR (e:eO):List AV:=[.int .i64 e.plugin,.int .i64 e.cell,.int .i64 e.right,.int .i64 e.node]
def dC (e:TypeId) (v:AV) (rows:List (List AV)):Asn:=orA (zs (rows=[]∧v= .nils)) (rO fun id:Nat=>xU (rows≠[]∧v= .isl (some id) e rows) (idA id rows.length))
def bE (b:Nat) (cells:List Int) (log:List eO):Asn:=rO fun v:AV=>fw (ah b [cells.map (.int .i64)++[v]]) (dC tEn v (log.map dR))
def kV (m:Option (List XD)):AV:=match m with
 | some L=>dY L
 | none=> .nils
def eQ:aO→List (List AV)→List AV
 | m::ms,k::ks=> .bool m.isSome::kV m::k++eQ ms ks
 | _,_=>[]
def mi (gb wb:Nat) (ms:aO) (ks:List (List AV)):List AV:= .ptr gb 0 0:: .ptr wb 0 0::eQ ms ks
def ei (b gb wb:Nat) (ms:aO) (kept:List VD):Asn:=rO fun ks:List (List AV)=>xU (VaL kept ks) (ah b [mi gb wb ms ks])
def Dg (args:List AV) (h:AH) (q:(AV ⊕ AV)×AH):Prop:=
 ∀ (F J:Nat→Prop) (bb gb wb:Nat) (ms:aO) (S:StD) (p f fuel:Int) (v:VD) (r:List AV),args=[.ptr bb 0 0,.int .i64 p,.int .i64 f,.agg r,.int .i64 fuel]→VaA v r→v.size≤100000→ms.length=4→nO ms→kM ms→S.Good→S.log.length≤900000→
   (bj [ei bb gb wb ms S.kept,aW gb S.G,bE wb S.cells S.log]).A h F J→
   ∃ r' h',q=(.inl (.tup [.agg r',.int .i64 (dh ms p f v fuel S).2.2.1,.int .i64 (dh ms p f v fuel S).2.2.2]),h')∧VaA (dh ms p f v fuel S).2.1 r'∧
     Did h F J h' (bj [ei bb gb wb ms (dh ms p f v fuel S).1.kept,aW gb (dh ms p f v fuel S).1.G,bE wb (dh ms p f v fuel S).1.cells (dh ms p f v fuel S).1.log])
def vj:List FuncId:=[120,160,63,98,62,159,112,97,
 58,60,84,158,145,162,150,
 15,76,51,96,151,14,68,
 100,67,163,99,66,64,
 85,154,152,45,139,153,
 123,103,104,122,121,141,
 105,124,106,78,108,125,109,81,
 110,82,43,111,83,41,80,
 107,79,40,86,47,87,48,143,142,
 157,166,19,30,46,94,
 53,11,165,164,144,161,146,
 128,126,155,156,140,39,89,88,
 90,115,91,116,42,147,129,130,
 131,132,133,134,117,93,118,
 92,50,77,148,149,21,17,55,
 52,20,16,136,25,44,
 8,9,10,3,13,34,24,
 57,56,59,61,26,28,29,69,
 22,23,138,137,135,119,
 54,95,18,27,33,4,5,
 6,35,71,37,73,72,
 101,74,102,70,36,75,38,
 31,32,7]
def Pk:List FuncId:=[120,160,98,159,112,158,145,162,
 150,15,51,96,151,14,100,
 163,154,152,139,153,123,104,
 122,121,141,105,78,108,
 125,109,81,110,82,43,111,
 83,41,86,47,87,48,143,142,157,
 166,19,30,46,94,53,
 11,165,164,144,161,126,155,89,
 115,91,116,42,147,21,17,55,
 52,20,16,136,8,9,
 3,13,34,57,28,29,69,
 22,23,138,135,4,5,6,
 71,37,73,72,101,
 74,102,75,38,31,7]
def muF:FuncId→TypeId→Bool:=fun g t=>t==69 || t==174 || t==120 || (t==33 && (g==114 || g==50 || g==59 || g==65)) || (g==95 && t==33+1000000)
def vS (args:List AV) (h:AH) (q:(AV ⊕ AV)×AH):Prop:=
 ∀ (F J:Nat→Prop) (b:Nat) (G:ae) (x:VD) (r:List AV) (gv:AV) (ks:List Int),args=[.ptr b 0 0,.agg r,gv]→IsG h F J b G→G.Wf→VaA x r→SlA 3 gv (bH ks)→ks.length≤1000000→
   ∃ r' h',q=(.inl (.tup [.agg r',.int .i64 (aN ks G x).2.2]),h')∧VaA (aN ks G x).2.1 r'∧cO h F J b h' (aN ks G x).1
open Classical in
noncomputable def rD (args:List AV) (h:AH):Option ((AV ⊕ AV)×AH):=
 if H:∃ q,AC Tryz.prog 113 args h q∧vS args h q then some (Classical.choose H)else none
def SA (args:List AV) (h:AH):Option AH:=match args with
 | [.ptr mb 0 0,.agg r]=>(h.cell mb).bind fun es=>match es with
   | [[_,.msl fb 0 k _,_]]=>(h.cell fb).bind fun rows=>(rows[k - 1]?).bind fun row=>(row[6]?).bind fun s=>(aQ true tV s (.msl (h.n+1) 0 1 tV) ((h.push [r]).push [r])).map fun q=>q.2.set fb (some (rows.set (k - 1) (row.set 6 q.1)))
   | _=>none
 | _=>none
open Classical in
noncomputable def Lk (args:List AV) (h:AH):Option ((AV ⊕ AV)×AH):=match SA args h with
 | some h'=>if AC Tryz.prog 114 args h (.inl (.tup []),h')then some (.inl (.tup []),h')else none
 | none=>none
def ul (L:List XD):AV:= .tup [if(aU L).1=0 then dY L else .nils,.agg [.int .i64 (aU L).1,.int .i64 (aU L).2]]
open Classical in
noncomputable def KN (args:List AV) (h:AH):Option ((AV ⊕ AV)×AH):=
 if H:∃ L:List XD,(∃ v es,args=[.agg [v]]∧SlA tE v es∧ExL L es)∧AC Tryz.prog 40 args h (.inl (ul L),h)then some (.inl (ul (Classical.choose H)),h)else none
open Classical in
noncomputable def vo (args:List AV) (h:AH):Option ((AV ⊕ AV)×AH):=
 if H:∃ cs:List Int,(∃ b lv,args=[.ptr b 0 0]∧h.cell b=some [cs.map (.int .i64)++[lv]]∧cs.length=12)∧AC Tryz.prog 21 args h (.inl (.isl none 2 (cs.map fun x=>[.int .i64 x])),h)then some (.inl (.isl none 2 ((Classical.choose H).map fun x=>[.int .i64 x])),h)else none
open Classical in
noncomputable def wu (args:List AV) (h:AH):Option ((AV ⊕ AV)×AH):=
 if H:∃ q,AC Tryz.prog 12 args h q∧Dg args h q then some (Classical.choose H)else none
def YM (args:List AV) (h:AH):Option (AV×AH):=match args with
 | [.ptr hb 0 0,.agg x,.int .i64 n,.int .i64 c]=>
   if c≠0 then some (.agg [.int .i64 c,.int .i64 0,.int .i64 0,.int .i64 0,.nils],(h.push [x]).push [[.int .i64 c,.int .i64 0,.int .i64 0,.int .i64 0,.nils]])
   else match x[1]?,h.cell hb with
   | some (AV.int _ p),some [row]=>(row[19+p.toNat]?).bind fun s=>(aQ true 35 s (.msl (h.n+1+1+1+1) 0 1 35) (((((h.push [x]).push [[.int .i64 0,.int .i64 0,.int .i64 0,.int .i64 0,.nils]]).push [[.int .i64 4,.int .i64 n,.nils]]).push [[.bool false]]).push [[.int .i64 4,.int .i64 n,.nils]])).map fun q=>
     (.agg [.int .i64 0,.int .i64 0,.int .i64 4,.int .i64 n,.nils],(((q.2.set hb (some [row.set (19+p.toNat) q.1])).set (h.n+1) (some [[.int .i64 0,.int .i64 0,.int .i64 4,.int .i64 n,.nils]])).set (h.n+1+1+1) none).set (h.n+1+1+1+1) none)
   | _,_=>none
 | _=>none
open Classical in
noncomputable def Re (args:List AV) (h:AH):Option ((AV ⊕ AV)×AH):=match YM args h with
 | some q=>if AC Tryz.prog 65 args h (.inl q.1,q.2)then some (.inl q.1,q.2)else none
 | none=>none
noncomputable def vd:FuncId→Option (List AV→AH→Option ((AV ⊕ AV)×AH)):=fun g=>if g=113 then some rD else if g=114 then some Lk else if g=40 then some KN else if g=21 then some vo else if g=12 then some wu else if g=65 then some Re else none
noncomputable def po:Pol:=qC Tryz.prog muF vd vj Pk
theorem UJ:po.ext 12=some wu:=by
 show vd 12=_
 unfold vd
 rw[if_neg (by decide),if_neg (by decide),if_neg (by decide),if_neg (by decide),if_pos rfl]
theorem zU {P:Program} {p:Pol} (n:Nat) (l:List FuncId) (h1:sD P p (l.take n)=true) (h2:sD P p (l.drop n)=true):sD P p l=true:=by
 rw[←List.take_append_drop n l]
 unfold sD at h1 h2 ⊢
 rw[List.all_append,h1,h2]
 rfl
theorem aal:sD Tryz.prog po (vj.take 55)=true:=by kernel_rfl
theorem aat:sD Tryz.prog po ((vj.drop 55).take 55)=true:=by kernel_rfl
theorem Z8:sD Tryz.prog po ((vj.drop 55).drop 55)=true:=by kernel_rfl
theorem pok:POK Tryz.prog po:=Ya (VL (by kernel_rfl)) (by kernel_rfl) (zU 55 _ aal (zU 55 _ aat Z8)) (fun g F h=>by
 unfold vd at h
 split at h
 ·rename_i e
  subst e
  injection h with h
  subst h
  refine⟨_,Tryz.func113,⟨by kernel_rfl,by kernel_rfl⟩,fun args h r hr=> ?_⟩
  unfold rD at hr
  split at hr
  ·rename_i H
   injection hr with hr
   rw[←hr]
   exact(Classical.choose_spec H).1
  ·cases hr
 split at h
 ·rename_i e
  subst e
  injection h with h
  subst h
  refine⟨_,Tryz.func114,⟨by kernel_rfl,by kernel_rfl⟩,fun args h r hr=> ?_⟩
  unfold Lk at hr
  split at hr
  ·split at hr
   ·rename_i H
    injection hr with hr
    rw[←hr]
    exact H
   ·cases hr
  ·cases hr
 split at h
 ·rename_i e
  subst e
  injection h with h
  subst h
  refine⟨_,Tryz.func40,⟨by kernel_rfl,by kernel_rfl⟩,fun args h r hr=> ?_⟩
  unfold KN at hr
  split at hr
  ·rename_i H
   injection hr with hr
   rw[←hr]
   exact(Classical.choose_spec H).2
  ·cases hr
 split at h
 ·rename_i e
  subst e
  injection h with h
  subst h
  refine⟨_,Tryz.func21,⟨by kernel_rfl,by kernel_rfl⟩,fun args h r hr=> ?_⟩
  unfold vo at hr
  split at hr
  ·rename_i H
   injection hr with hr
   rw[←hr]
   exact(Classical.choose_spec H).2
  ·cases hr
 split at h
 ·rename_i e
  subst e
  injection h with h
  subst h
  refine⟨_,Tryz.func12,⟨by kernel_rfl,by kernel_rfl⟩,fun args h r hr=> ?_⟩
  unfold wu at hr
  split at hr
  ·rename_i H
   injection hr with hr
   rw[←hr]
   exact(Classical.choose_spec H).1
  ·cases hr
 split at h
 ·rename_i e
  subst e
  injection h with h
  subst h
  refine⟨_,Tryz.func65,⟨by kernel_rfl,by kernel_rfl⟩,fun args h r hr=> ?_⟩
  unfold Re at hr
  split at hr
  ·split at hr
   ·rename_i H
    injection hr with hr
    rw[←hr]
    exact H
   ·cases hr
  ·cases hr
 cases h)
def cL:Code→Code
 | .seq a _=>a
 | c=>c
def cR:Code→Code
 | .seq _ b=>b
 | c=>c
def gC:Code→Array Oper
 | .region _ ops _=>ops
 | _=> #[]
section
variable {P:Program} {po:Pol} {f:FuncId} {n nv:Nat} {vm:List Nat} {h h':AH} {t V V':List AV}
theorem cH {a:Nat} (h7:x9 a n (po.nv f) nv vm=true):vm.Nodup∧∀ j s,vm[j]? =some s→(j<nv↔s<po.nv f):=by
 unfold x9 at h7
 simp only[Bool.and_eq_true,decide_eq_true_eq,List.all_eq_true,List.mem_range,beq_iff_eq,bne_iff_ne,ne_eq]at h7
 obtain⟨⟨a1,a2⟩,a3⟩:=h7
 have get:∀ j s,vm[j]? =some s→j<vm.length∧vm.getD j 0=s:=fun j s hj=>⟨(List.getElem?_eq_some_iff.1 hj).1,by simp[List.getD,hj]⟩
 refine⟨?_,fun j s hj=> ?_⟩
 ·rw[List.nodup_iff_pairwise_ne,List.pairwise_iff_getElem]
  intro i j hi hj hij e
  have:=(a3 j hj).2 i hij
  apply this
  simp[List.getD,hi,hj,e]
 ·obtain⟨g1,g2⟩:=get j s hj
  have:=(a3 j g1).1.1.2
  rw[g2]at this
  exact decide_eq_decide.1 this
theorem uP (pok:POK P po) {c:Code} {l:List RS} {K:List Item} {x:AEx} (hvm:vm.Nodup∧∀ j s,vm[j]? =some s→(j<nv↔s<po.nv f)) (htr:bG P (po.mu f) (po.plan f) n vm c []=some l) (hrg:dP (po.plan f) (po.kp f) c=true)
  (hr:aC (aj P po) nv [.ss l,.halt K] V [] h=some (x,V',h')) (rv:RV n vm [] t V []):
  ∃ t',(∀ (m:Mm) (w:World) (a:Act) (b:Frame) (cs:List Frame),WR P m h w→TR P m h t a.tmps→a.defers=b.defers→bV P (po.kp f) m h w b cs (lone (b.at a (.code c::K)) cs w) (x,t',h'))∧RV n vm [] t' V' []:=by
 obtain⟨t',e,rv'⟩:=(rX (n:=n) (f:=f) hvm.1 hvm.2 _ _ _ _ _ hr).1 [.code c,.halt K] t (.ss [c] l [.halt K] [.halt K] (by simp[trL,htr]) (.halt K [] [])) rv
 refine⟨t',fun m w a b cs hw ht hd=> ?_,rv'⟩
 exact(k9 pok f _ t h _ e).good (.code c::K) (.code c _ _ hrg (.halt K [])) b cs m w a hw ht hd
theorem rU {g:FuncId} {fn:Func} {c:Code} (hf:P.funcs[g]? =some fn) (hb:fn.body=some c) (vs:List Value) (kd:CallKind):
  (Frame.enter P g vs.toArray kd).at {tmps:=(vs++η (fn.ntmps - vs.length) undef).toArray,defers:=[]} [.code c]=Frame.enter P g vs.toArray kd:=by
 simp[Frame.enter,Frame.at,hf,hb]
theorem re {m:Mm} {k:Nat} {args:List AV} {vs:List Value} (hv:VRs P m h args vs):
  TR P m h (args++η (k - args.length) .junk) (vs++η (k - vs.length) undef).toArray:=by
 have hl:=hv.1
 have h2:VRs P m h (args++η (k - args.length) .junk) (vs++η (k - vs.length) undef):=by
  rw[hl]
  exact VRs.append hv ⟨by simp,fun j hj hj'=>by simp only[List.getElem_replicate];exact .junk _⟩
 refine⟨by simpa using h2.1,fun i hi=> ?_⟩
 have hi2:i<(vs++η (k - vs.length) undef).length:=by rw[h2.1];exact hi
 have:=h2.2 i hi hi2
 simp only[Array.getD_eq_getD_getElem?,List.getElem?_toArray,List.getElem?_eq_getElem hi2,Option.getD_some]
 exact this
theorem W7 {m:Mm} {ts:Array Value} (ht:TR P m h t ts) {i:Nat} (hi:i<t.length):VR P m h (t.getD i .junk) (ts.getD i undef):=by
 have:=ht.2 i hi
 simpa[List.getD,hi]using this
end
open Go Go.RowKit
section
variable {P:Program} {po:Pol} {f:FuncId} {n nv:Nat} {vm:List Nat} {h:AH}
def qS (P:Program) (po:Pol) (f:FuncId) (n:Nat) (vm:List Nat) (args:List AV) (h:AH) (x:AEx) (V:List AV) (h2:AH):Prop:=
 ∀ (m:Mm) (w:World) (vs:List Value),WR P m h w→VRs P m h args vs→∀ cs:List Frame,∃ (bf:Frame) (t2:List AV),bf.fn=f∧bf.kind= .normal∧bf.defers=[]∧RV n vm [] t2 V []∧
   bV P (po.kp f) m h w bf cs (lone (Frame.enter P f vs.toArray .normal) cs w) (x,t2,h2)
theorem qS.start {fn:Func} {c:Code} {args:List AV} (hf:P.funcs[f]? =some fn) (hb:fn.body=some c) (hn:fn.ntmps=n)
  (rv:RV n vm [] (args++η (n - args.length) .junk) (args++η (vm.length - args.length) .junk) []):qS P po f n vm args h (.halt [.code c]) (args++η (vm.length - args.length) .junk) h:=by
 intro m w vs hw hvs cs
 have he:=rU hf hb vs .normal
 have ht:=re (P:=P) (h:=h) (k:=n) hvs
 rw[hn]at he
 refine⟨Frame.enter P f vs.toArray .normal,_,by simp[Frame.enter],by simp[Frame.enter],by simp[Frame.enter],rv,m,w,Ext.refl _ _,hw,Below.refl _ _,{tmps:=_,defers:=[]},ht,?_,?_⟩
 ·simp[Frame.enter]
 ·conv=>lhs;rw[←he]
  exact .refl _ _
theorem qS.next (pok:POK P po) {c A B:Code} {l:List RS} {args V V':List AV} {h2 h3:AH} {x:AEx} (p:qS P po f n vm args h (.halt [.code c]) V h2) (hc:c= .seq A B)
  (hvm:vm.Nodup∧∀ j s,vm[j]? =some s→(j<nv↔s<po.nv f)) (htr:bG P (po.mu f) (po.plan f) n vm A []=some l) (hrg:dP (po.plan f) (po.kp f) A=true)
  (hr:aC (aj P po) nv [.ss l,.halt [.code B]] V [] h2=some (x,V',h3)):qS P po f n vm args h x V' h3:=by
 intro m w vs hw hvs cs
 obtain⟨bf,t2,b1,b2,b3,rv,m1,w1,x1,x2,x3,a1,x4,x5,x6⟩:=p m w vs hw hvs cs
 obtain⟨t3,hp,rv3⟩:=uP pok hvm htr hrg hr rv
 have y5:=hp m1 w1 a1 bf cs x2 x4 x5
 have s0:Steps P (lone (Frame.enter P f vs.toArray .normal) cs w) (lone (bf.at a1 [.code A,.code B]) cs w1):=by
  refine x6.trans ?_
  conv=>lhs;rw[hc]
  exact .one step_seq
 exact⟨bf,t3,b1,b2,b3,rv3,bV.steps s0 (bV.after x1 x3 y5)⟩
theorem DK {fn:Func} {rs:List nS} {t V:List AV} {h:AH} {v:AV} (hres:lI P vm fn.results.toList=some rs) (rv:RV n vm [] t V []) (hv:(fS V h rs).map gh=some v):qi fn t h P=some v:=by
 unfold qi
 rw[i8 (h:=h) rv hres]
 exact hv
theorem qS.ret {fn:Func} {rs:List nS} {args V:List AV} {h2:AH} {v:AV} (p:qS P po f n vm args h .ret V h2) (hf:P.funcs[f]? =some fn) (hres:lI P vm fn.results.toList=some rs) (hv:(fS V h2 rs).map gh=some v):AC P f args h (.inl v,h2):=by
 intro m w vs hw hvs cs
 obtain⟨bf,t2,b1,b2,b3,rv,m',w',x1,x2,x3,a',todo,x4,x5,x6⟩:=p m w vs hw hvs cs
 rw[b3]at x5
 obtain⟨u,h7,h8⟩:=ja x2 x4 (DK (h:=h2) hres rv hv)
 exact⟨.returned u,w',_,⟨m',x1,x2,x3,u,rfl,h8⟩,x6,b1,rfl,x5,b2,_,by simp[Frame.at,b1,hf],h7⟩
theorem Vu {t V:List AV} {i:Nat} {v:AV} (rv:RV n vm [] t V []) (hi:i ∉ vm):RV n vm [] (cz t (some i) v) V []:=by
 refine⟨by simpa[cz]using rv.len,rv.lv,rv.ll,fun j s hj=> ?_,fun j s hj=>by simp at hj⟩
 obtain⟨h1,h2⟩:=rv.v j s hj
 refine⟨h1,?_⟩
 rw[←h2]
 have hne:i≠s:=fun e=>hi (by rw[e];exact List.mem_of_getElem? hj)
 simp[cz,List.getD,List.getElem?_set,hne]
def yc (a:Act) (caps:List Nat):List Value:=caps.map fun i=>a.tmps.getD i undef
theorem Yy {m:Mm} {h2:AH} {t V:List AV} {a:Act} {caps js:List Nat} (rv:RV n vm [] t V []) (ht:TR P m h2 t a.tmps) (hc:caps=js.map fun j=>vm.getD j 0) (hj:∀ j∈js,j<vm.length):
  VRs P m h2 (js.map fun j=>V.getD j .junk) (yc a caps):=by
 subst hc
 refine⟨by simp[yc],fun i h1 h2=> ?_⟩
 simp only[List.length_map]at h1
 have hlt:=hj _ (List.getElem_mem h1)
 have hs:vm[js[i]]? =some (vm.getD js[i] 0):=by simp[List.getD,hlt]
 obtain⟨q1,q2⟩:=rv.v _ _ hs
 have:=W7 ht (i:=vm.getD js[i] 0) (by rw[rv.len];exact q1)
 rw[q2]at this
 simpa[yc]using this
theorem VRs.extG {m m':Mm} {h h':AH} {l:List AV} {us:List Value} (v:VRs P m h l us) (x:Ext m h m' h'):VRs P m' h' l us:=⟨v.1,fun j h1 h2=>(v.2 j h1 h2).ext x⟩
theorem Ko {P:Program} {t t':List AV} {h:AH}:∀ {l:List ResultVar},(∀ r∈l,∃ i ty,r= .cell i ty∧t.getD i .junk=t'.getD i .junk)→qo P t h l=qo P t' h l
 | [],_=>rfl
 | r::l,hl=>by
   obtain⟨i,ty,rfl,e⟩:=hl r (List.mem_cons_self ..)
   have ih:qo P t h l=qo P t' h l:=Ko fun q hq=>hl q (List.mem_cons_of_mem _ hq)
   simp only[qo,e,ih]
def MR (fCl:FuncId) (us:List Value):Value:= .func (.func fCl) #[] us.toArray
def vb (fCl:FuncId) (us:List Value):Deferred:={target:= .fn (.func fCl) us.toArray,args:= #[]}
inductive YV (P:Program) (fCl:FuncId) (capA:List AV) (h3 h4:AH):AEx→Prop
 | ret (cl:∀ (m:Mm) (w:World) (ps:List Value),WR P m h3 w→VRs P m h3 capA ps→CallsD P fCl ps.toArray .returning w fun e u'' w'=>(∃ v,e= .returned v)∧u''= .returning∧∃ m',Ext m h3 m' h4∧WR P m' h4 w'∧Below m.base w w'):YV P fCl capA h3 h4 .ret
 | panic (v:AV) (cl:∀ (m:Mm) (w:World) (ps:List Value) (u:Value),WR P m h3 w→VRs P m h3 capA ps→VR P m h3 v u→CallsD P fCl ps.toArray (.panicking [{v:=u,recovered:=false}]) w fun e u'' w'=>(∃ v,e= .returned v)∧u''= .panicking [{v:=u,recovered:=true}]∧∃ m',Ext m h3 m' h4∧WR P m' h4 w'∧Below m.base w w'):YV P fCl capA h3 h4 (.panic v)
theorem Eg (pok:POK P po) {fn:Func} {rs:List nS} {args V V':List AV} {h2 h3 h4:AH} {cZ cW:Code} {fCl:FuncId} {k:Nat} {caps js:List Nat} {l:List RS} {x:AEx} {r:AV} (p:qS P po f n vm args h (.halt [.code cZ]) V h2) (hf:P.funcs[f]? =some fn) (hcf:∃ fnC,P.funcs[(fCl:Nat)]? =some fnC∧(fnC.body.isNone=false∧(fnC.name== "runtime.NumGoroutine")=false))
  (hk:k ∉ vm) (hc:caps=js.map fun j=>vm.getD j 0) (hj:∀ j∈js,j<vm.length)
  (lay:∀ (bf:Frame) (a:Act) (cs:List Frame) (w:World),a.tmps.size=n→Steps P (lone (bf.at a [.code cZ]) cs w) (lone (bf.at {a.put (some k) (MR fCl (yc a caps))with defers:=vb fCl (yc a caps)::a.defers} [.code cW]) cs w))
  (hvm:vm.Nodup∧∀ j s,vm[j]? =some s→(j<nv↔s<po.nv f)) (htr:bG P (po.mu f) (po.plan f) n vm cW []=some l) (hrg:dP (po.plan f) (po.kp f) cW=true)
  (hr:aC (aj P po) nv [.ss l,.halt []] V [] h2=some (x,V',h3)) (hkp:∀ r∈fn.results.toList,∃ i ty,r= .cell i ty∧po.kp f i=true)
  (he:YV P fCl (js.map fun j=>V.getD j .junk) h3 h4 x) (hres:lI P vm fn.results.toList=some rs) (hv:(fS V' h4 rs).map gh=some r):AC P f args h (.inl r,h4):=by
 intro m w vs hw hvs cs
 obtain⟨bf,t2,b1,b2,b3,rv,m2,w2,x1,x2,x3,a2,x4,x5,x6⟩:=p m w vs hw hvs cs
 rw[b3]at x5
 have hsz:a2.tmps.size=n:=by rw[x4.1,rv.len]
 have lay:=lay bf a2 cs w2 hsz
 have vc:=Yy rv x4 hc hj
 generalize yc a2 caps=us at lay vc
 rw[x5]at lay
 have ht3:=x4.put (VR.junk (MR fCl us)) (some k)
 have rv3:=Vu (i:=k) (v:= .junk) rv hk
 obtain⟨t5,hp,rv5⟩:=uP pok hvm htr hrg hr rv3
 obtain⟨m3,w3,y1,y2,y3,y4⟩:=hp m2 w2 {a2.put (some k) (MR fCl us)with defers:=[vb fCl us]} {bf with defers:=[vb fCl us]} cs x2 ht3 rfl
 have vc3:=VRs.extG vc y1
 have ra:qi fn t5 h4 P=some r:=DK hres rv5 hv
 have inv:(invoke (.fn (.func fCl) us.toArray) #[]).run P w3= .ok (.enter fCl us.toArray) w3:=by
  obtain⟨fnC,g1,g2,g3⟩:=hcf
  have g3':¬ fnC.name= "runtime.NumGoroutine":=by simpa using g3
  have g2':¬ fnC.body=none:=by cases hb:fnC.body with | none=>rw[hb]at g2;cases g2 | some c=>simp
  simp[go_sem,callFunc,g1,g2',g3']
 have bel:∀ {m4:Mm} {w':World},Below m3.base w3 w'→Below m.base w w':=by
  intro m4 w' z3
  have q1:m2.base=m.base:=x1.base
  have q2:m3.base=m2.base:=y1.base
  rw[q2,q1]at z3
  rw[q1]at y3
  exact(x3.trans y3).trans z3
 cases he with
 | ret cl=>
   obtain⟨a5,todo,z1,z2,z3⟩:=y4
   have hlv:Leaves P fn a5.tmps (fun e w'=>∃ m',Ext m h m' h4∧WR P m' h4 w'∧Below m.base w w'∧∃ u,e= .returned u∧VR P m' h4 r u) [vb fCl us] .returning w3:=by
    refine leaves_cons (f:=fCl) (args:=us.toArray) (by simp) inv ?_
    refine(cl m3 w3 us y2 vc3).mono ?_
    rintro e u'' w' ⟨⟨v,rfl⟩,rfl,m4,n1,n2,n3⟩
    obtain⟨u,h7,h8⟩:=ja n2 (z1.ext n1) ra
    exact⟨u,h7,m4,(x1.trans y1).trans n1,n2,bel (m4:=m4) n3,u,rfl,h8⟩
   obtain⟨e,w4,fr',hR,hs,hfn,hl⟩:=leaves_steps [vb fCl us] .returning w3 {(({bf with defers:=[vb fCl us]}:Frame).at a5 todo)with mode:= .returning} cs rfl z2 rfl (by simp[Frame.at,b1,hf]) (by simpa[Frame.at]using b2) hlv
   exact⟨e,w4,fr',hR,Comes.of_steps (x6.trans (lay.trans z3)) hs,hfn.trans b1,hl⟩
 | panic v cl=>
   obtain⟨a5,todo,u,⟨tm,z0,z1⟩,z2,z4,z3⟩:=y4
   have rm:qi fn tm h4 P=some r:=by
    rw[←ra]
    unfold qi
    rw[Ko fun q hq=>by obtain⟨i,ty,e,hi⟩:=hkp q hq;exact⟨i,ty,e,z1 i hi⟩]
   have hlv:Leaves P fn a5.tmps (fun e w'=>∃ m',Ext m h m' h4∧WR P m' h4 w'∧Below m.base w w'∧∃ u,e= .returned u∧VR P m' h4 r u) [vb fCl us] (.panicking [{v:=u,recovered:=false}]) w3:=by
    refine leaves_cons (f:=fCl) (args:=us.toArray) (by simp) inv ?_
    refine(cl m3 w3 us u y2 vc3 z4).mono ?_
    rintro e u'' w' ⟨⟨v,rfl⟩,rfl,m4,n1,n2,n3⟩
    obtain⟨u2,h7,h8⟩:=ja n2 (z0.ext n1) rm
    exact⟨u2,h7,m4,(x1.trans y1).trans n1,n2,bel (m4:=m4) n3,u2,rfl,h8⟩
   obtain⟨e,w4,fr',hR,hs,hfn,hl⟩:=leaves_steps [vb fCl us] (.panicking [{v:=u,recovered:=false}]) w3 {(({bf with defers:=[vb fCl us]}:Frame).at a5 todo)with mode:= .panicking [{v:=u,recovered:=false}]} cs rfl z2 rfl (by simp[Frame.at,b1,hf]) (by simpa[Frame.at]using b2) hlv
   exact⟨e,w4,fr',hR,Comes.of_steps (x6.trans (lay.trans z3)) hs,hfn.trans b1,hl⟩
theorem My (c:Frame) (h:c.mode= .returning) (cs:List Frame):recoverD (c::cs)=none:=by simp[recoverD,h]
theorem Hp {v:Value} (c:Frame) (h:c.mode= .panicking [{v:=v,recovered:=false}]) (cs:List Frame):recoverD (c::cs)=some (v,{c with mode:= .panicking [{v:=v,recovered:=true}]}::cs):=by simp[recoverD,h]
def OO (P:Program) (c:Code) (n s1 s2:Nat):Prop:=∀ (ts:Array Value) (v:Value) (cs cs':List Frame) (w:World),ts.size=n→(recoverD cs=some (v,cs')∨(recoverD cs=none∧v= .nilIface∧cs'=cs))→
 c.wpS P (fun e a' cs2 w'=>e= .normal∧cs2=cs'∧w'=w∧a'=(({tmps:=ts,defers:=[]}:Act).put (some s1) v).put (some s2) v) {tmps:=ts,defers:=[]} cs w
theorem clG {fnC:Func} {cC:Code} {s1 s2:Nat} (pok:POK P po) {l:List RS} {caps V V':List AV} {h':AH} {e:AV} (hf:P.funcs[f]? =some fnC) (hb:fnC.body=some cC) (hseq:cC= .seq (cL cC) (cR cC)) (hn:fnC.ntmps=n) (hr0:∀ (a:Array Value) (w:World),∃ v,(results fnC a).run P w= .ok v w)
  (hrec:OO P (cL cC) n s1 s2) (hvm:vm.Nodup∧∀ j s,vm[j]? =some s→(j<nv↔s<po.nv f)) (htr:bG P (po.mu f) (po.plan f) n vm (cR cC) []=some l) (hrg:dP (po.plan f) (po.kp f) (cR cC)=true)
  (hr:aC (aj P po) nv [.ss l,.halt []] V [] h=some (.halt [],V',h')) (rv:RV n vm [] (cz (cz (caps++η (n - caps.length) .junk) (some s1) e) (some s2) e) V [])
  {m:Mm} {w:World} {ps:List Value} {v:Value} (hw:WR P m h w) (hvs:VRs P m h caps ps) (hcl:caps.length≤n) (ve:VR P m h e v) {u:FrameMode} (u':FrameMode)
  (hu':∀ c:Frame,c.mode=u→∀ cs,(recoverD (c::cs)=some (v,{c with mode:=u'}::cs))∨(recoverD (c::cs)=none∧v= .nilIface∧u'=u)):
  CallsD P f ps.toArray u w fun e u'' w'=>(∃ v,e= .returned v)∧u''=u'∧∃ m',Ext m h m' h'∧WR P m' h' w'∧Below m.base w w':=by
 intro c cs hu
 have he:=rU hf hb ps .deferred
 have ht:=re (P:=P) (h:=h) (k:=n) hvs
 generalize hbb:Frame.enter P f ps.toArray .deferred=b at he
 have hbk:b.kind= .deferred:=by rw[←hbb];simp[Frame.enter]
 have hbf:b.fn=f:=by rw[←hbb];simp[Frame.enter]
 have hbr:b.roundOf=none:=by rw[←hbb];simp[Frame.enter]
 rw[hn]at he
 generalize ha:(ps++η (n - ps.length) undef).toArray=ts at he ht
 have h1:Steps P (lone b (c::cs) w) (lone (b.at {tmps:=ts,defers:=[]} [.code (cL cC),.code (cR cC)]) (c::cs) w):=by
  rw[←he]
  conv=>lhs;rw[hseq]
  exact .one step_seq
 have hsz:ts.size=n:=by
  rw[ht.1]
  simp only[List.length_append,List.length_replicate]
  omega
 have hcs:recoverD (c::cs)=some (v,{c with mode:=u'}::cs)∨(recoverD (c::cs)=none∧v= .nilIface∧({c with mode:=u'}:Frame)::cs=c::cs):=by
  rcases hu' c hu cs with h1 | ⟨h1,h2,h3⟩
  ·exact .inl h1
  ·have h4:({c with mode:=u'}:Frame)=c:=by rw[h3,←hu]
   exact .inr ⟨h1,h2,by rw[h4]⟩
 obtain⟨e1,a1,cs1,w1,⟨rfl,rfl,rfl,rfl⟩,harr⟩:=hrec ts v _ _ w hsz hcs b [.code (cR cC)] hbk hbr
 have ht1:=(ht.put (a:={tmps:=ts,defers:=[]}) ve (some s1)).put ve (some s2)
 obtain⟨t',hp,hrv⟩:=uP pok hvm htr hrg hr rv
 obtain⟨m',w',x1,x2,x3,a',x4,x5,x6⟩:=hp m w1 _ {b with defers:=[]} ({c with mode:=u'}::cs) hw ht1 rfl
 have hfin:Steps P (lone b (c::cs) w1) (lone {b.at a' []with mode:= .returning} ({c with mode:=u'}::cs) w'):=h1.trans (harr.trans (x6.trans (.one step_end)))
 obtain⟨v0,hv0⟩:=hr0 a'.tmps w'
 refine⟨.returned v0,u',w',_,⟨⟨_,rfl⟩,rfl,m',x1,x2,x3⟩,hfin,hbk,rfl,x5,fnC,?_,hv0⟩
 show P.funcs[b.fn]? =_
 rw[hbf]
 exact hf
end
def BK:List RS:=[(.ops [(.i (.v 5) B3),(.i (.v 6) (.box 1 (.v 4))),FK,(.i (.v 8) Iy),(.i (.v 9) Iy)])]
def oP:List RS:=[(.block 0 [(.ops [Hw,jJ,aV,(.g (.l 0) false .l (.load false 1 (.v 6))),OL,rZ,aV,pT,D5,rZ,aV,pT,Kf,rZ,tK]),(.cond (.v 14) [(.ops [iQ,oz,Hn,(.i .n (.store 1 (.v 9) (.c (.int .i64 1))))]),.ret] [(.ops [ay,bk,lP,dW,zF,bI,ai,lW,aV,yy,D5,rZ,aV,yy,CW,SG,R5,(.g (.l 4) false .l (.fad 2 (.l 0))),(.g (.l 5) false .l (.ixa none (some (4,5)) (.l 0) (.l 2))),No,wM,(.g (.l 8) false .l (.len false (some 174) (.l 0))),(.g (.l 9) false .l (.bin (.int .i64) .geq (.l 8) (.l 0))),(.i .l (.pick (.l 10) (.c (.bool true)) (.l 0))),vM]),(.cond (.v 15) [(.ops [iQ,oz,Hn,(.i .n (.store 1 (.v 9) (.c (.int .i64 8))))]),.ret] [])])])]
def C5:List RS:=[(.ops [pU,Jk,mp]),(.ops [mr,Gk]),(.cond (.v 16) [(.ops [iQ,mr,sM,Hn,(.i .n (.store 1 (.v 9) (.l 0)))]),.ret] [])]
def Cc:List RS:=[(.ops [ay,Hw,(.i .l (.build [.nilp,.nils,(.int .i64 0)] [(0,1),(1,1),(2,1)] [(0,(.l 1)),(2,(.l 0))])),(.i .l (.box 3 (.l 0))),(.i (.v 11) (.alloc [.nilp])),(.i .n (.store 1 (.v 11) (.l 0)))])]
def B7:List RS:=[(.ops [I9,bk,bN,pU,Pp,(.ck [⟨none,false,1,(.v 11),(.l 4)⟩]),(.i .l (.build [(.int .i64 0),(.int .i64 0),(.int .i64 0),(.int .i64 0),(.int .i64 0),.nils,.nils,.nils,(.bool false),.nils] [(0,1),(1,1),(2,1),(3,3),(6,1),(7,1),(8,1),(9,1)] [(0,(.l 3)),(1,(.l 2)),(3,(.l 0))])),Nc,(.ck [⟨none,false,1,(.v 11),(.l 6)⟩]),xz,bX,fU])]
def kA:List RS:=[(.block 2 [(.ops [I9,(.i .l (.call (.c (.fn 50 [] [])) [(.l 0)])),aV,br,bY,HX,Ii,mU]),(.ops [(.i (.v 17) (.mv (.v 13)))]),(.cond (.v 17) [(.ops [(.i .l (.load true 3 (.v 12))),Hw,I9,bg,dW,ai,Br,(.i .l (.call (.c (.fn 48 [] [])) [(.l 6)])),(.ck [⟨none,false,1,(.v 6),(.l 6)⟩,⟨none,false,1,(.v 11),(.l 5)⟩,⟨none,false,1,(.l 3),(.l 2)⟩]),oz,(.ck [⟨none,false,1,(.v 6),(.l 6)⟩,⟨none,false,1,(.v 11),(.l 5)⟩,⟨none,false,1,(.l 3),(.l 2)⟩]),(.i .n (.store 1 (.v 8) (.l 1))),(.i .n (.store 1 (.v 9) (.c (.int .i64 0))))]),.ret] [])])]
def zj:List RS:=[(.block 1 [(.loop kA)])]
def HB:List RS:=[(.ops [bT,(.i (.v 8) (.binG .iface none true .neq (.l 0) (.c .nili)))]),(.cond (.v 8) [(.ops [bT,(.i .l (.tas 127 true (.l 0))),aV,br,bY,ti,fV]),(.ops [fx,(.i (.v 9) mT)]),(.cond (.v 9) [(.ops [bT,Dw])] []),(.ops [iQ,(.i .l (.load false 1 (.v 0))),(.i .l (.load false 1 (.v 1))),bg,dW,ai,Br,dQ,(.i .n (.store 3 (.v 2) (.l 7))),(.i .n (.store 1 (.v 3) (.l 1))),(.i .n (.store 1 (.v 4) (.l 0)))])] [])]
def xE:List RS:=[(.ops [ql,uk]),(.ops [ay,bg,bX,ai,IB,(.i (.v 3) IE)]),(.cond (.v 3) [(.ops [ql,NH]),.ret] []),RE,N7,.ret]
theorem DJ:FnR Tryz.prog po 63 1 4 [0,2,3,9] xE [(.v 1),(.v 2)] false:=by refine⟨_,_,Tryz.func63,rfl,rfl,?_,?_,?_,?_,?_⟩<;>kernel_rfl
def JV:List RS:=[d9,Qg,.ret]
theorem TF:FnR Tryz.prog po 98 2 3 [0,1,4] JV [(.v 2)] true:=by refine⟨_,_,Tryz.func98,rfl,rfl,?_,?_,?_,?_,?_⟩<;>kernel_rfl
def BH:List RS:=[iC,(.ops [ay,bk,RM,(.i (.v 3) mT)]),(.cond (.v 3) [(.ops [Qb]),.ret] []),P4,iC,.ret]
theorem KY:FnR Tryz.prog po 62 2 4 [0,1,4,8] BH [(.v 2)] false:=by refine⟨_,_,Tryz.func62,rfl,rfl,?_,?_,?_,?_,?_⟩<;>kernel_rfl
def EM:List RS:=[d9,(.ops [ay,bk,RM,aV,oW,Gi,Ia,wR,Tn,R8,Qt,To,NU,dH]),.ret]
theorem Oa:FnR Tryz.prog po 159 2 3 [0,1,4] EM [(.v 2)] true:=by refine⟨_,_,Tryz.func159,rfl,rfl,?_,?_,?_,?_,?_⟩<;>kernel_rfl
def KI:List RS:=[d9,(.ops [bk,pZ,aV,Dt,RN,Q2,(.g (.l 3) true .l nV),QH,(.g (.l 5) true .l (.len false (some 132) (.l 0))),Ty,PS,dH]),.ret]
theorem Vy:FnR Tryz.prog po 112 2 3 [0,1,4] KI [(.v 2)] true:=by refine⟨_,_,Tryz.func112,rfl,rfl,?_,?_,?_,?_,?_⟩<;>kernel_rfl
def nz:List RS:=[Sk,(.block 0 [(.ops [lQ,ai,CU,lW,dw]),(.cond (.v 5) [(.ops [kI,xD]),.ret] [(.ops [mO,ai,SU,aV,oW,Sj,Gq,(.g (.l 3) true .l (.call (.c (.fn 98 [] [])) [(.l 2),(.l 0)])),B4,Bg,dM]),(.cond (.v 6) [(.ops [kI,Rr]),.ret] [(.ops [ay,bg,bI,ai,ui,(.i .l (.bin (.int .i64) .eql (.l 0) (.c (.int .i64 80)))),fV]),(.cond (.v 7) [(.ops [kI,QW]),.ret] [])])])]),R7,RG,.ret]
theorem pE:FnR Tryz.prog po 97 2 8 [0,1,3,4,5,6,11,22] nz [(.v 3),(.v 4)] false:=by refine⟨_,_,Tryz.func97,rfl,rfl,?_,?_,?_,?_,?_⟩<;>kernel_rfl
def yB:List RS:=[Dm,(.ops [bk,IW,tv]),(.cond (.v 6) [(.ops [nL,xj]),.ret] []),(.ops [ay,bm,bN,bk,Xe,ST,br,bY,nq,dw]),.ret]
theorem FQ:FnR Tryz.prog po 58 4 7 [0,1,2,3,8,9,12] yB [(.v 4),(.v 5)] false:=by refine⟨_,_,Tryz.func58,rfl,rfl,?_,?_,?_,?_,?_⟩<;>kernel_rfl
def zh:List RS:=[(.ops [jF,jB]),SY,(.cond (.v 7) [(.ops [jF,IL]),.ret] []),(.ops [ay,bA,bm,bk,bN,VU,(.i .l (.call (.c (.fn 97 [] [])) [(.l 5),(.l 0)])),br,bY,nH,dM]),.ret]
theorem DN:FnR Tryz.prog po 60 5 8 [0,1,2,3,4,10,11,25] zh [(.v 5),(.v 6)] false:=by refine⟨_,_,Tryz.func60,rfl,rfl,?_,?_,?_,?_,?_⟩<;>kernel_rfl
def qm:List RS:=[Dm,(.ops [ay,bk,(.i .l NX),tv]),(.cond (.v 6) [(.ops [nL,Nf]),.ret] []),(.ops [ay,bk,bm,bN,Q7,ST,br,bY,nq,dw]),.ret]
theorem ye:FnR Tryz.prog po 84 4 7 [0,1,2,3,8,9,13] qm [(.v 4),(.v 5)] false:=by refine⟨_,_,Tryz.func84,rfl,rfl,?_,?_,?_,?_,?_⟩<;>kernel_rfl
def lG:List RS:=[(.ops [ay,bk,(.i (.v 4) NX)]),(.cond (.v 4) [] [(.exit 0)]),(.block 1 [(.ops [bm,ay,bg,bI,ai,bk,xa,sI,VV,(.i .l (.app false 132 (.l 8) (.l 0))),cV]),(.ops [ay,bg,bI,ai,bk,xa,bI,ai,iS])])]
def Fi:List RS:=[yM,yd,(.block 0 [(.loop lG)]),n9,.ret]
theorem O3:FnR Tryz.prog po 158 2 5 [0,1,4,5,8] Fi [(.v 2)] true:=by refine⟨_,_,Tryz.func158,rfl,rfl,?_,?_,?_,?_,?_⟩<;>kernel_rfl
def gI:List RS:=[(.ops [Gc]),(.cond (.v 9) [] [(.exit 0)]),(.block 1 [(.ops [lJ,(.i .l (.ixa (some 132) none (.v 6) (.v 8))),sI,NC,(.i (.v 4) tC),Ph]),(.ops [IM,ai,pZ,aV,oW,(.g (.l 1) true .l (.fad 1 (.v 5))),Gq,(.g (.l 3) true .l (.call (.c (.fn 159 [] [])) [(.l 2),(.l 0)])),B4,(.i (.v 10) GA)]),(.cond (.v 10) [iC,.ret] []),(.ops [bA,Ds]),(.cond (.v 11) [(.ops [(.i (.v 3) (.mv (.c (.int .i64 15))))])] []),(.ops [bm,(.i .l (.fad 2 (.v 5))),ai,(.i .l (.call (.c (.fn 160 [] [])) [(.l 2),(.l 0)])),cV])]),Jj]
def xn:List RS:=[iC,g8,(.ops [ay,bk,(.i (.v 6) HY),(.i (.v 7) (.len false (some 132) (.v 6))),jW]),(.block 0 [(.loop gI)]),n9,.ret]
theorem H9:FnR Tryz.prog po 145 2 12 [0,1,4,5,6,7,10,11,12,13,26,28] xn [(.v 2)] true:=by refine⟨_,_,Tryz.func145,rfl,rfl,?_,?_,?_,?_,?_⟩<;>kernel_rfl
def xF:List RS:=[(.ops [SV,zZ]),(.ops [ay,bk,(.i .l HY),dB]),(.ops [bA,ui,Td]),(.cond (.v 5) [(.ops [O0,B2,zZ]),.ret] []),(.ops [bA,bA,ui,gc,(.i .l (.ixa (some 132) none (.l 3) (.l 0))),sI,B2,vJ]),.ret]
theorem Gm:FnR Tryz.prog po 162 2 6 [0,1,4,5,6,12] xF [(.cell true 6 2),(.v 3)] true:=by refine⟨_,_,Tryz.func162,rfl,rfl,?_,?_,?_,?_,?_⟩<;>kernel_rfl
def ko:List RS:=[(.ops [PJ]),(.cond (.v 8) [] [(.exit 0)]),(.block 1 [(.ops [(.i .l (.ixa (some 132) none (.v 5) (.v 7))),sI,Id,Bi]),(.ops [jU,ai,(.i (.v 9) Bp)]),(.cond (.v 9) [(.ops [bm,jU,ai,FC,Sg,cV])] [])]),(.ops [SI,fV])]
def Af:List RS:=[yM,yd,(.ops [ay,bk,(.i (.v 5) HY),(.i (.v 6) (.len false (some 132) (.v 5))),oR]),(.block 0 [(.loop ko)]),n9,.ret]
theorem M6:FnR Tryz.prog po 150 2 10 [0,1,4,5,7,10,11,12,13,18] Af [(.v 2)] true:=by refine⟨_,_,Tryz.func150,rfl,rfl,?_,?_,?_,?_,?_⟩<;>kernel_rfl
def AS:List RS:=[tY,(.ops [ay,bg,bI,ai,(.i .l (.call (.c (.fn 51 [] [])) [(.l 0)])),iS]),.ret]
theorem MD:FnR Tryz.prog po 15 1 2 [0,2] AS [(.v 1)] true:=by refine⟨_,_,Tryz.func15,rfl,rfl,?_,?_,?_,?_,?_⟩<;>kernel_rfl
def K4:List RS:=[BS,(.ops [Pe,DB,wm]),.ret]
theorem U8:FnR Tryz.prog po 76 0 1 [0] K4 [(.v 0)] false:=by refine⟨_,_,Tryz.func76,rfl,rfl,?_,?_,?_,?_,?_⟩<;>kernel_rfl
def sV:List RS:=[tY,(.ops [ay,Nt]),(.cond (.v 2) [tY,.ret] []),(.ops [(.i .l (.bsl false 132 [(.int .i64 0),(.int .i64 0),(.int .i64 0),(.int .i64 0),(.int .i64 0),(.int .i64 0)] 6 0 [])),ay,(.i .l (.app false 132 (.l 1) (.l 0))),iS]),.ret]
theorem zI:FnR Tryz.prog po 51 1 3 [0,2,4] sV [(.v 1)] true:=by refine⟨_,_,Tryz.func51,rfl,rfl,?_,?_,?_,?_,?_⟩<;>kernel_rfl
def JS:List RS:=[(.ops [G8]),(.ops [ay,pZ,aV,oW,(.g (.l 1) true .l (.bin (.int .i64) .lss (.l 0) (.c (.int .i64 12)))),wh,iS]),.ret]
theorem T8:FnR Tryz.prog po 96 1 2 [0,2] JS [(.v 1)] true:=by refine⟨_,_,Tryz.func96,rfl,rfl,?_,?_,?_,?_,?_⟩<;>kernel_rfl
def PN:List RS:=[d9,(.ops [ay,bk,IC,(.i .l (.bin (.int .i64) .shr (.l 2) (.l 0))),(.i .l (.bin (.int .i64) .and (.l 0) (.c (.int .i64 1)))),(.i .l (.bin (.int .i64) .eql (.l 0) (.c (.int .i64 1)))),dH]),.ret]
theorem YX:FnR Tryz.prog po 151 2 3 [0,1,4] PN [(.v 2)] true:=by refine⟨_,_,Tryz.func151,rfl,rfl,?_,?_,?_,?_,?_⟩<;>kernel_rfl
def gV:List RS:=[(.ops [bm,ay,ui,Bh]),(.cond (.v 5) [] [(.exit 0)]),(.block 1 [(.ops [ay,bm,xa,sI,bk,bm,xa,sI,(.i (.v 6) (.binG .agg (some [(.int .i64),(.int .i64),(.int .i64),(.int .i64),(.int .i64),(.int .i64)]) false .neq (.l 4) (.l 0)))]),(.cond (.v 6) [d9,.ret] [])]),qG]
def sx:List RS:=[d9,(.ops [ay,ui,bk,ui,BA]),(.cond (.v 4) [d9,.ret] []),g8,(.block 0 [(.loop gV)]),qD,.ret]
theorem C8:FnR Tryz.prog po 14 2 7 [0,1,4,5,10,14,25] sx [(.v 2)] true:=by refine⟨_,_,Tryz.func14,rfl,rfl,?_,?_,?_,?_,?_⟩<;>kernel_rfl
def vO:List RS:=[(.ops [ql,uk]),(.ops [ay,bg,bX,ai,IB,(.i (.v 3) (.bin (.int .i64) .geq (.l 0) (.c (.int .i64 20))))]),(.cond (.v 3) [(.ops [ql,NH]),.ret] []),RE,N7,.ret]
theorem E9:FnR Tryz.prog po 68 1 4 [0,2,3,9] vO [(.v 1),(.v 2)] false:=by refine⟨_,_,Tryz.func68,rfl,rfl,?_,?_,?_,?_,?_⟩<;>kernel_rfl
def Jt:List RS:=[d9,Qg,.ret]
theorem VG:FnR Tryz.prog po 100 2 3 [0,1,4] Jt [(.v 2)] true:=by refine⟨_,_,Tryz.func100,rfl,rfl,?_,?_,?_,?_,?_⟩<;>kernel_rfl
def Ca:List RS:=[iC,(.ops [ay,bk,Py,(.i (.v 3) mT)]),(.cond (.v 3) [(.ops [Qb]),.ret] []),P4,iC,.ret]
theorem KV:FnR Tryz.prog po 67 2 4 [0,1,4,8] Ca [(.v 2)] false:=by refine⟨_,_,Tryz.func67,rfl,rfl,?_,?_,?_,?_,?_⟩<;>kernel_rfl
def D3:List RS:=[d9,(.ops [ay,bk,Py,aV,oW,Gi,Ia,wR,Tn,R8,Qt,To,NU,dH]),.ret]
theorem SO:FnR Tryz.prog po 163 2 3 [0,1,4] D3 [(.v 2)] true:=by refine⟨_,_,Tryz.func163,rfl,rfl,?_,?_,?_,?_,?_⟩<;>kernel_rfl
def nh:List RS:=[Sk,(.ops [lQ,ai,jJ,aV,(.g (.l 0) false .l (.fad 2 (.v 2))),fG,(.g (.l 2) false .l (.bin (.int .i64) .gtr (.l 0) (.c (.int .i64 15)))),(.i (.v 5) Je)]),(.cond (.v 5) [(.ops [kI,xD]),.ret] []),(.ops [mO,ai,SU,aV,oW,Sj,Gq,(.g (.l 3) true .l (.call (.c (.fn 100 [] [])) [(.l 2),(.l 0)])),B4,(.i (.v 6) GA)]),(.cond (.v 6) [(.ops [kI,Rr]),.ret] []),(.ops [ay,bg,bI,ai,ui,(.i (.v 7) (.bin (.int .i64) .geq (.l 0) (.c (.int .i64 80))))]),(.cond (.v 7) [(.ops [kI,QW]),.ret] []),R7,RG,.ret]
theorem pz:FnR Tryz.prog po 99 2 8 [0,1,3,4,5,13,23,29] nh [(.v 3),(.v 4)] false:=by refine⟨_,_,Tryz.func99,rfl,rfl,?_,?_,?_,?_,?_⟩<;>kernel_rfl
def wn:List RS:=[Dm,(.ops [bk,jJ,aV,pT,(.g (.l 1) false .l (.bin (.int .i64) .geq (.l 0) (.c (.int .i64 12)))),(.i (.v 6) I6)]),(.cond (.v 6) [(.ops [nL,xj]),.ret] []),(.ops [ay,bm,bN,bk,Xe,NZ,br,bY,nq,dw]),.ret]
theorem Ei:FnR Tryz.prog po 66 4 7 [0,1,2,3,8,9,15] wn [(.v 4),(.v 5)] false:=by refine⟨_,_,Tryz.func66,rfl,rfl,?_,?_,?_,?_,?_⟩<;>kernel_rfl
def wD:List RS:=[(.ops [jF,jB]),SY,(.cond (.v 7) [(.ops [jF,IL]),.ret] []),(.ops [ay,bA,bm,bk,bN,VU,(.i .l (.call (.c (.fn 99 [] [])) [(.l 5),(.l 0)])),br,bY,nH,dM]),.ret]
theorem Eb:FnR Tryz.prog po 64 5 8 [0,1,2,3,4,10,11,25] wD [(.v 5),(.v 6)] false:=by refine⟨_,_,Tryz.func64,rfl,rfl,?_,?_,?_,?_,?_⟩<;>kernel_rfl
def qs:List RS:=[Dm,(.ops [bk,jJ,aV,pT,CW,Sw,OD,M9,N2,P5,(.i (.v 6) IZ)]),(.cond (.v 6) [(.ops [nL,Nf]),.ret] []),(.ops [ay,bk,bm,bN,Q7,NZ,br,bY,nq,dw]),.ret]
theorem xx:FnR Tryz.prog po 85 4 7 [0,1,2,3,8,9,20] qs [(.v 4),(.v 5)] false:=by refine⟨_,_,Tryz.func85,rfl,rfl,?_,?_,?_,?_,?_⟩<;>kernel_rfl
def Cs:List RS:=[yM,(.ops [bk,jJ,aV,pT,CW,Sw,OD,M9,N2,P5,(.i (.v 3) IZ)]),(.cond (.v 3) [yM,.ret] []),(.ops [bk,FC,ay,ay,bg,bI,ai,bk,xa,bI,ai,(.i .l (.call (.c (.fn 154 [] [])) [(.l 8),(.l 0)])),(.i .l (.app false 3 (.l 10) (.l 0))),dH]),.ret]
theorem KS:FnR Tryz.prog po 154 2 4 [0,1,4,15] Cs [(.v 2)] true:=by refine⟨_,_,Tryz.func154,rfl,rfl,?_,?_,?_,?_,?_⟩<;>kernel_rfl
def jy:List RS:=[(.ops [fx,bm,sS,(.i (.v 10) n8)]),(.cond (.v 10) [] [(.exit 2)]),(.block 3 [(.ops [ay,bg,bI,ai,bm,fx,Ci,ai,Q6,sI,(.i (.v 8) wG),(.ck [⟨none,false,1,(.l 7),(.l 6)⟩,⟨none,false,1,(.l 3),(.l 2)⟩,⟨none,true,6,(.l 1),(.l 0)⟩]),(.i .n (.store 6 (.v 8) (.l 0)))]),(.ops [dQ,aV,(.g (.l 0) true .l (.fad 2 (.v 8))),lE,(.g (.l 2) true .l (.mv (.v 5))),(.g (.l 3) true .l (.call (.c (.fn 151 [] [])) [(.l 1),(.l 0)])),(.i .l (.pick (.l 4) (.l 0) (.c (.bool false)))),aV,(.g (.l 0) true .l (.fad 1 (.v 8))),lE,BR,(.g (.l 3) true .l eD),Oj,(.g (.l 1) false .l (.fad 1 (.v 8))),(.g (.l 2) false .l f9),(.g (.l 3) false .l (.call (.c (.fn 163 [] [])) [(.l 2),(.l 0)])),(.g (.l 8) true .l qB),(.i .l (.pick (.l 9) (.l 0) (.c (.bool false)))),dM])]),(.ops [fx,oF,fV])]
def fK:List RS:=[(.ops [bT,(.i .l Hq),aV,(.g (.l 0) true .l (.mv (.v 3))),(.g (.l 1) true .l (.len false (some 3) (.l 0))),(.g (.l 2) true .l Pw),(.i (.v 9) vN)]),(.cond (.v 9) [] [(.exit 0)]),(.block 1 [(.ops [(.i (.v 6) (.mv (.c (.bool true))))]),(.ops [oR]),(.block 2 [(.loop jy)]),(.ops [(.i (.v 11) (.mv (.v 6)))]),(.cond (.v 11) [(.ops [bA,bT,IC,(.i .l (.bin (.int .i64) .shl (.c (.int .i64 1)) (.l 0))),(.i .l (.bin (.int .i64) .add (.l 3) (.l 0))),dB])] [])]),yz]
def vY:List RS:=[iC,(.ops [ay,bk,G6,cV]),lO,oe,(.block 0 [(.loop fK)]),(.ops [bA,dH]),.ret]
theorem F8:FnR Tryz.prog po 152 2 12 [0,1,4,5,6,7,8,9,10,20,26,57] vY [(.v 2)] true:=by refine⟨_,_,Tryz.func152,rfl,rfl,?_,?_,?_,?_,?_⟩<;>kernel_rfl
def fp:List RS:=[(.ops [(.i (.v 3) (.box 5 (.v 2))),BV]),(.ops [jF,jB,oR,jW]),(.ops [g9,GY]),(.block 0 [(.ops [(.i .l (.bin (.int .i64) .eql (.v 9) (.c (.int .i64 0)))),mp]),(.cond (.v 10) [(.ops [ay,QI,aV,br,bY,nH,fV]),(.ops [bk,OQ,aV,br,bY,ti,dE])] [(.ops [(.i .l (.bin (.int .i64) .eql (.v 9) (.c (.int .i64 1)))),mV]),(.cond (.v 11) [(.ops [ay,eu,ai,bk,eu,ai,(.i .l (.call (.c (.fn 62 [] [])) [(.l 5),(.l 3)])),(.ck [⟨none,false,1,(.l 2),(.l 1)⟩]),(.i .l (.call (.c (.fn 67 [] [])) [(.l 3),(.l 1)])),Hd,dE])] [(.ops [(.i .l (.bin (.int .i64) .eql (.v 9) (.c (.int .i64 2)))),sT]),(.cond (.v 12) [(.ops [ay,eu,ai,jQ,ai,lL,ai,(.i .l (.call (.c (.fn 58 [] [])) [(.l 6),(.l 4),(.l 2),(.l 0)])),aV,br,bY,nH,fV]),(.ops [bk,eu,ai,jQ,ai,lL,ai,(.i .l (.call (.c (.fn 66 [] [])) [(.l 6),(.l 4),(.l 2),(.l 0)])),aV,br,bY,ti,dE])] [(.ops [(.i .l (.bin (.int .i64) .eql (.v 9) (.c (.int .i64 3)))),mU]),(.cond (.v 13) [(.ops [ay,eu,ai,(.i .l (.fad 4 (.v 3))),ai,jQ,ai,lL,ai,(.i .l (.call (.c (.fn 60 [] [])) [(.l 8),(.l 6),(.l 4),(.l 2),(.l 0)])),aV,br,bY,nH,fV]),(.ops [bk,eu,ai,(.i .l (.fad 4 (.v 3))),ai,jQ,ai,lL,ai,(.i .l (.call (.c (.fn 64 [] [])) [(.l 8),(.l 6),(.l 4),(.l 2),(.l 0)])),aV,br,bY,ti,dE])] [(.ops [(.i .l (.bin (.int .i64) .eql (.v 9) (.c (.int .i64 4)))),tK]),(.cond (.v 14) [(.ops [ay,eu,ai,jQ,ai,lL,ai,(.i .l (.call (.c (.fn 84 [] [])) [(.l 6),(.l 4),(.l 2),(.l 0)])),aV,br,bY,nH,fV]),(.ops [bk,eu,ai,jQ,ai,lL,ai,(.i .l (.call (.c (.fn 85 [] [])) [(.l 6),(.l 4),(.l 2),(.l 0)])),aV,br,bY,ti,dE])] [])])])])])]),(.ops [bT,dQ,Gn,aV,(.g (.l 0) true .l (.mv (.v 7))),(.g (.l 1) true .l (.mv (.v 8))),(.g (.l 2) true .l PV),yH,dB]),.ret]
theorem gt:FnR Tryz.prog po 45 3 15 [0,1,2,5,6,7,8,9,10,12,13,25,35,59,87] fp [(.v 4)] false:=by refine⟨_,_,Tryz.func45,rfl,rfl,?_,?_,?_,?_,?_⟩<;>kernel_rfl
open Go.RowKit
theorem Vm (y:BitVec 64):((y &&& 1#64).toInt==1)=y.getLsbD 0:=by
 have h:(y &&& 1#64).toNat=y.toNat % 2:=by
  rw[BitVec.toNat_and]
  exact Nat.and_one_is_mod _
 have hb:y.getLsbD 0=decide (y.toNat % 2=1):=by
  rw[BitVec.getLsbD,Nat.testBit_zero]
 rw[hb,Bool.eq_iff_iff,beq_iff_eq,decide_eq_true_eq,BitVec.toInt_eq_toNat_cond,h]
 split<;>omega
theorem vH (x:BitVec 64) {k:Nat} (hk:k<64):cP x.toInt k=x.getLsbD k:=by
 unfold cP
 have e:x.toInt / 2 ^ k=(x.sshiftRight k).toInt:=by
  rw[BitVec.toInt_sshiftRight,Int.shiftRight_eq_div_pow]
  simp
 rw[e,yU,sA]
 show((_ &&& 1#64).toInt==1)=_
 rw[Vm,BitVec.getLsbD_sshiftRight]
 simp
 omega
open Go.RowKit
def ae.wayF (G:ae):Nat→Int→List Int
 | 0,_=>[]
 | f+1,i=>if G.has i then i::G.wayF f (G.nodes.getD i.toNat bM).parent else[]
def ae.way (G:ae) (i:Int):List Int:=G.wayF (i.toNat+1) i
def ae.at_ (G:ae) (i:Int):bw:=G.nodes.getD i.toNat bM
theorem ae.wayF_more {G:ae} (h:G.Wf):∀ (f:Nat) (i:Int),i.toNat<f→G.wayF f i=G.way i:=by
 intro f
 induction f using Nat.strongRecOn with
 | _ f ih=>
   intro i hi
   cases f with
   | zero=>omega
   | succ f=>
     unfold ae.way
     by_cases hh:G.has i=true
     ·have ok:=h.get hh
      have hp:=ok.p0
      have hp1:=ok.p1
      have hi0:0≤i:=by simp[ae.has]at hh;exact hh.1
      unfold ae.wayF
      rw[if_pos hh,if_pos hh]
      congr 1
      generalize (G.nodes.getD i.toNat bM).parent=p at*
      by_cases hpn:p<0
      ·have hno:G.has p=false:=by simp[ae.has];omega
       cases f with
       | zero=>cases hn:i.toNat<;>simp[ae.wayF,hno]
       | succ f=>cases hn:i.toNat<;>simp[ae.wayF,hno]
      ·have e1:=ih f (by omega) p (by omega)
       rw[e1]
       rcases Nat.lt_or_ge i.toNat (f+1)with h2 | h2
       ·have e2:=ih i.toNat (by omega) p (by omega)
        rw[e2]
       ·omega
     ·cases f<;>simp[ae.wayF,hh]
theorem ae.way_yes {G:ae} (h:G.Wf) {i:Int} (hi:G.has i=true):G.way i=i::G.way (G.nodes.getD i.toNat bM).parent:=by
 have ok:=h.get hi
 have hp1:=ok.p1
 have hp0:=ok.p0
 have hi0:0≤i:=by simp[ae.has]at hi;exact hi.1
 rw[ae.way,ae.wayF,if_pos hi]
 congr 1
 generalize (G.nodes.getD i.toNat bM).parent=p at*
 by_cases hpn:p<0
 ·have hno:G.has p=false:=by simp[ae.has];omega
  unfold ae.way
  cases i.toNat<;>simp[ae.wayF,hno]
 ·exact ae.wayF_more h _ _ (by omega)
theorem ae.way_no {G:ae} {i:Int} (hi:G.has i=false):G.way i=[]:=by
 rw[ae.way,ae.wayF,hi]
 rfl
theorem ae.wayF_path {G:ae}:∀ (f:Nat) (i:Int),(G.wayF f i).map G.at_=G.pathF f i:=by
 intro f
 induction f with
 | zero=>intro i;rfl
 | succ f ih=>
   intro i
   unfold ae.wayF ae.pathF
   split
   ·rw[List.map_cons,ih]
    rfl
   ·rfl
theorem ae.way_path {G:ae} (i:Int):(G.way i).map G.at_=G.path i:=ae.wayF_path _ _
theorem ae.way_length {G:ae} (i:Int):(G.way i).length=(G.path i).length:=by rw[←ae.way_path,List.length_map]
theorem ae.wayF_has {G:ae}:∀ (f:Nat) (i:Int),∀ k∈G.wayF f i,G.has k=true:=by
 intro f
 induction f with
 | zero=>intro i k hk;simp[ae.wayF]at hk
 | succ f ih=>
   intro i k hk
   unfold ae.wayF at hk
   split at hk
   ·rcases List.mem_cons.1 hk with rfl | hk
    ·assumption
    ·exact ih _ k hk
   ·simp at hk
theorem ae.way_has {G:ae} (i:Int):∀ k∈G.way i,G.has k=true:=ae.wayF_has _ _
def yf (G:ae) (P:List bw) (k:Nat):Bool:=P.all fun n=>cP n.rights k && !dm G n
def kx (G:ae) (i:Int) (k:Nat):Int:=if G.path i=[]then 0 else((List.range k).map fun j=>if yf G (G.path i) j then(2:Int) ^ j else 0).sum
def uw (P:List bw):BitVec 64:=P.foldl (fun v n=>v &&& BitVec.ofInt 64 n.rights) 15#64
theorem wT (P:List bw) (hP:∀ n∈P,gX n.rights=true) (v:BitVec 64):P.foldl (fun r n=>qe r n.rights) v.toInt=(P.foldl (fun v n=>v &&& BitVec.ofInt 64 n.rights) v).toInt:=by
 induction P generalizing v with
 | nil=>rfl
 | cons n P ih=>
   rw[List.foldl_cons,List.foldl_cons]
   have e:qe v.toInt n.rights=(v &&& BitVec.ofInt 64 n.rights).toInt:=by
    unfold qe
    rw[yU,sA]
   rw[e,ih (fun m hm=>hP m (by simp[hm]))]
theorem SM (P:List bw) (v:BitVec 64) (k:Nat):(P.foldl (fun v n=>v &&& BitVec.ofInt 64 n.rights) v).getLsbD k=(v.getLsbD k && P.all fun n=>(BitVec.ofInt 64 n.rights).getLsbD k):=by
 induction P generalizing v with
 | nil=>simp
 | cons n P ih=>
   rw[List.foldl_cons,ih,BitVec.getLsbD_and,List.all_cons,Bool.and_assoc]
theorem Vb:∀ n:Nat,n<16→((n:Nat):Int)=((List.range 4).map fun j=>if n.testBit j then(2:Int) ^ j else 0).sum:=by decide
theorem EE {a:Int} (h:gX a=true):a=(BitVec.ofInt 64 a).toInt:=by
 have h':0≤a∧a≤15:=by simpa[gX]using h
 rw[BitVec.toInt_ofInt,Int.bmod_def]
 split<;>omega
theorem HO {G:ae} (h:G.Wf) (i:Int):kx G i 4=G.rights i:=by
 unfold kx ae.rights
 by_cases hp:G.path i=[]
 ·rw[if_pos hp,if_pos (.inl hp)]
 ·rw[if_neg hp]
  cases hc:(G.path i).any (dm G)
  ·rw[if_neg (by simp[hp])]
   have hin:∀ (f:Nat) (k:Int),∀ n∈G.pathF f k,gX n.rights=true:=by
    intro f
    induction f with
    | zero=>intro k n hn;simp[ae.pathF]at hn
    | succ f ih=>
      intro k n hn
      unfold ae.pathF at hn
      split at hn
      ·rename_i hk
       rcases List.mem_cons.1 hn with rfl | hn
       ·exact(h.get hk).r
       ·exact ih _ n hn
      ·simp at hn
   have hP:∀ n∈G.path i,gX n.rights=true:=hin _ i
   have e15:(15:Int)=(15#64).toInt:=rfl
   rw[e15,wT _ hP]
   have hv:∀ k,(uw (G.path i)).getLsbD k=((15#64).getLsbD k && (G.path i).all fun n=>(BitVec.ofInt 64 n.rights).getLsbD k):=SM _ _
   show _=(uw (G.path i)).toInt
   have hlt:(uw (G.path i)).toNat<16:=by
    have:(uw (G.path i))=(uw (G.path i)) &&& 15#64:=by
     apply BitVec.eq_of_getLsbD_eq
     intro k hk
     rw[BitVec.getLsbD_and,hv k]
     cases (15#64).getLsbD k<;>simp
    rw[this,BitVec.toNat_and]
    have h2:(15#64).toNat=2 ^ 4 - 1:=rfl
    rw[h2,Nat.and_two_pow_sub_one_eq_mod]
    omega
   have hti:(uw (G.path i)).toInt=((uw (G.path i)).toNat:Int):=by
    rw[BitVec.toInt_eq_toNat_cond]
    split<;>omega
   rw[hti,Vb _ hlt]
   congr 1
   apply List.map_congr_left
   intro j hj
   have hj4:j<4:=List.mem_range.1 hj
   have hb:yf G (G.path i) j=(uw (G.path i)).toNat.testBit j:=by
    have h1:=hv j
    rw[BitVec.getLsbD]at h1
    rw[h1]
    have h15:(15#64).getLsbD j=true:=by
     have:j=0∨j=1∨j=2∨j=3:=by omega
     rcases this with rfl | rfl | rfl | rfl<;>rfl
    rw[h15,Bool.true_and]
    unfold yf
    rw[List.any_eq_false]at hc
    rw[Bool.eq_iff_iff,List.all_eq_true,List.all_eq_true]
    constructor
    ·intro hh n hn
     have:=hh n hn
     rw[Bool.and_eq_true]at this
     rw[←vH _ (by omega),←EE (hP n hn)]
     exact this.1
    ·intro hh n hn
     have h2:=hh n hn
     rw[←vH _ (by omega),←EE (hP n hn)]at h2
     rw[h2]
     simpa using hc n hn
   rw[hb]
  ·rw[if_pos (.inr rfl)]
   have hz:∀ j,yf G (G.path i) j=false:=by
    intro j
    obtain⟨n,hn,hcn⟩:=List.any_eq_true.1 hc
    unfold yf
    rw[List.all_eq_false]
    exact⟨n,hn,by simp[hcn]⟩
   simp[hz,List.range_succ]
theorem MW (n:bw):(aH n).length=6:=rfl
theorem MS (n:bw):(aH n).all AV.one=true:=rfl
theorem TO (n:bw):(aH n)[0]? =some (.int .i64 n.parent):=rfl
theorem TL (n:bw):(aH n)[1]? =some (.int .i64 n.gate):=rfl
theorem TJ (n:bw):(aH n)[2]? =some (.int .i64 n.rights):=rfl
theorem T5 (n:bw):(aH n)[3]? =some (.int .i64 n.cell):=rfl
theorem UP (n:bw):(aH n)[4]? =some (.int .i64 n.plugin):=rfl
theorem Uu (n:bw):(aH n)[5]? =some (.int .i64 n.func):=rfl
theorem eI:(∀ n,(aH n).length=6)∧(∀ n,(aH n).all AV.one=true)∧(∀ n:bw,(aH n)[0]? =some (.int .i64 n.parent))∧(∀ n:bw,(aH n)[1]? =some (.int .i64 n.gate))∧(∀ n:bw,(aH n)[2]? =some (.int .i64 n.rights))∧(∀ n:bw,(aH n)[3]? =some (.int .i64 n.cell))∧
  (∀ n:bw,(aH n)[4]? =some (.int .i64 n.plugin))∧(∀ n:bw,(aH n)[5]? =some (.int .i64 n.func)):=⟨MW,MS,TO,TL,TJ,T5,UP,Uu⟩
theorem qZ.isL {h:AH} {J:Nat→Prop} {e:TypeId} {v:AV} {rows:List (List AV)} (g:qZ h J e v rows):IsL e v rows:=by
 rcases g with⟨rfl,rfl⟩ | ⟨id,_,_,_,_,rfl⟩
 ·exact n7 e
 ·exact pF _ _ _
theorem sF.len {h:AH} {F:Nat→Prop} {b:Nat} {e:TypeId} {v:AV} {rows:List (List AV)} (g:sF h F b e v rows):eW v=some rows.length∧∀ s,ew s (some e) v=true:=by
 rcases g with⟨rfl,rfl⟩ | ⟨q,_,_,_,_,rfl⟩
 ·exact⟨rfl,fun s=>rfl⟩
 ·exact⟨rfl,fun s=>ml⟩
theorem qZ.grew {h h':AH} {J:Nat→Prop} {e:TypeId} {v:AV} {rows:List (List AV)} (g:qZ h J e v rows) (x:ab h h'):qZ h' J e v rows:=by
 rcases g with h1 | ⟨id,h1,h0,h2,h3,h4⟩
 ·exact .inl h1
 ·exact .inr ⟨id,h1,h0,Nat.lt_of_lt_of_le h2 x.ids,(x.hw id h2).trans h3,h4⟩
theorem sF.grew {h h':AH} {F:Nat→Prop} {b:Nat} {e:TypeId} {v:AV} {rows:List (List AV)} (g:sF h F b e v rows) (x:ab h h'):sF h' F b e v rows:=by
 rcases g with h1 | ⟨q,h1,h2,h3,h4,h5⟩
 ·exact .inl h1
 ·exact .inr ⟨q,h1,h2,Nat.lt_of_lt_of_le h3 x.n,(x.cell q h3).trans h4,h5⟩
theorem IsG.grew {h h':AH} {F J:Nat→Prop} {b:Nat} {G:ae} (g:IsG h F J b G) (x:ab h h'):IsG h' F J b G:=by
 obtain⟨nv,sv,h1,h2,h3⟩:=g.ex
 exact⟨⟨g.hb.1,Nat.lt_of_lt_of_le g.hb.2 x.n⟩,⟨fun k hk=>Nat.lt_of_lt_of_le (g.lt.1 k hk) x.n,fun j hj=>Nat.lt_of_lt_of_le (g.lt.2 j hj) x.ids⟩,nv,sv,(x.cell b g.hb.2).trans h1,h2.grew x,h3.grew x⟩
theorem vk {h:AH} {F:Nat→Prop} {b:Nat} {sv:AV} {l:List Bool} (g:sF h F b tB sv (l.map fun x=>[.bool x])) {m:Nat} (hm:m<l.length):
  ∃ q,bL (some tB) none sv (.int .i64 (m:Int))=some (.ptr q m 0)∧h.cell q=some (l.map fun x=>[.bool x])∧(l.map fun x=>[AV.bool x])[m]? =some [.bool (l.getD m false)]∧F q∧q≠b∧q<h.n∧sv= .msl q 0 l.length tB:=by
 rcases g with⟨h1,_⟩ | ⟨q,h1,h2,h3,h4,rfl⟩
 ·simp at h1;subst h1;simp at hm
 ·exact⟨q,by simp[bL,hm],h4,by simp[hm,List.getD],h1,h2,h3,by simp⟩
theorem ae.gate_nat {G:ae} {k:Int} (hh:G.hasGate k=true):∃ m:Nat,k=m∧m<G.shut.length:=by
 simp[ae.hasGate]at hh
 exact⟨k.toNat,by omega,by omega⟩
theorem ae.has_nn {G:ae} {k:Int} (hh:G.has k=true):0≤k:=by simp[ae.has]at hh;exact hh.1
theorem ae.node_nat {G:ae} {k:Int} (hh:G.has k=true):∃ m:Nat,k=m∧m<G.nodes.length∧(G.nodes.map aH)[m]? =some (aH (G.nodes.getD m bM)):=by
 simp[ae.has]at hh
 have hl:k.toNat<G.nodes.length:=by omega
 exact⟨k.toNat,by omega,hl,by simp[hl,List.getD]⟩
section
variable {h:AH} {F J:Nat→Prop} {b:Nat} {G:ae}
theorem Ed (g:IsG h F J b G) (k:Int):aj Tryz.prog po 98 [.ptr b 0 0,.int .i64 k] h=some (.inl (.bool (G.hasGate k)),h):=by
 obtain⟨nv,sv,h1, -,h3⟩:=g.ex
 refine ag TF rfl ?_;unfold JV
 by_cases h0:0≤k<;>simp only[sim,af,θ,ξ,η,reduceCtorEq,ψ,ω,aa,h0,h1,h3.len.1,h3.len.2,rI,ae.hasGate,List.length_map]
theorem FZ (g:IsG h F J b G) (k:Int):aj Tryz.prog po 100 [.ptr b 0 0,.int .i64 k] h=some (.inl (.bool (G.hasGate k)),h):=by
 obtain⟨nv,sv,h1, -,h3⟩:=g.ex
 refine ag VG rfl ?_;unfold Jt
 by_cases h0:0≤k<;>simp only[sim,af,θ,ξ,η,reduceCtorEq,ψ,ω,aa,h0,h1,h3.len.1,h3.len.2,rI,ae.hasGate,List.length_map]
theorem Ff (g:IsG h F J b G) (k:Int):aj Tryz.prog po 112 [.ptr b 0 0,.int .i64 k] h=some (.inl (.bool (G.has k)),h):=by
 obtain⟨nv,sv,h1,h2, -⟩:=g.ex
 refine ag Vy rfl ?_;unfold KI
 by_cases h0:0≤k<;>simp only[sim,af,θ,ξ,η,reduceCtorEq,ψ,ω,aa,h0,h1,h2.isL.len,h2.isL.fits,rI,ae.has,List.length_map]
theorem YG (g:IsG h F J b G) (k:Int):aj Tryz.prog po 159 [.ptr b 0 0,.int .i64 k] h=some (.inl (.bool (G.isOpen k)),h):=by
 obtain⟨nv,sv,h1, -,h3⟩:=g.ex
 refine ag Oa rfl ?_;unfold EM
 cases hh:G.hasGate k
 ·simp only[sim,af,θ,ξ,η,reduceCtorEq,ψ,ω,aa,Ed g,hh,ae.isOpen]
 ·obtain⟨m,rfl,hm⟩:=ae.gate_nat hh
  obtain⟨q,e1,e2,e3, -⟩:=vk h3 hm
  simp only[sim,af,θ,ξ,η,reduceCtorEq,ψ,ω,aa,Ed g,hh,h1,e1,e2,e3,ae.isOpen,Int.toNat_natCast]
theorem Yn (g:IsG h F J b G) (k:Int):aj Tryz.prog po 163 [.ptr b 0 0,.int .i64 k] h=some (.inl (.bool (G.isOpen k)),h):=by
 obtain⟨nv,sv,h1, -,h3⟩:=g.ex
 refine ag SO rfl ?_;unfold D3
 cases hh:G.hasGate k
 ·simp only[sim,af,θ,ξ,η,reduceCtorEq,ψ,ω,aa,FZ g,hh,ae.isOpen]
 ·obtain⟨m,rfl,hm⟩:=ae.gate_nat hh
  obtain⟨q,e1,e2,e3, -⟩:=vk h3 hm
  simp only[sim,af,θ,ξ,η,reduceCtorEq,ψ,ω,aa,FZ g,hh,h1,e1,e2,e3,ae.isOpen,Int.toNat_natCast]
theorem Ip (g:IsG h F J b G) (hW:G.Wf) (rest:List RS):∀ (f:Nat) (i:Int) (acc:List bw) (h':AH) (v tt:AV),i+1≤f→(G.has i=true→acc.length+i.toNat<200)→Acc h h' tN v (acc.map aH)→ab h h'→
  ∃ h'' v' i' t,aC (aj Tryz.prog po) 5 [.lp lG,.ss [],.blk 0,.ss rest] [.ptr b 0 0,.int .i64 i,.nils,v,tt] [] h'=aC (aj Tryz.prog po) 5 [.ss rest] [.ptr b 0 0,i',.nils,v',t] [] h''∧Acc h h'' tN v' ((acc++G.path i).map aH)∧ab h h'':=by
 intro f
 induction f with
 | zero=>
   intro i acc h' v tt hi hf ha hg
   have g':=g.grew hg
   have hh:G.has i=false:=by simp[ae.has];omega
   rw[aG lG.eq_1]
   refine⟨h',v,.int .i64 i,.bool false,?_,by rw[ae.path_no hh,List.append_nil];exact ha,hg⟩
   simp only[sim,af,θ,ξ,η,reduceCtorEq,ψ,ω,aa,Ff g',hh]
 | succ f ih=>
   intro i acc h' v tt hi hf ha hg
   have g':=g.grew hg
   obtain⟨nv,sv,h1,h2, -⟩:=g'.ex
   rw[aG lG.eq_1]
   cases hh:G.has i
   ·refine⟨h',v,.int .i64 i,.bool false,?_,by rw[ae.path_no hh,List.append_nil];exact ha,hg⟩
    simp only[sim,af,θ,ξ,η,reduceCtorEq,ψ,ω,aa,Ff g',hh]
   ·obtain⟨m,rfl,hm,hm2⟩:=ae.node_nat hh
    have hf:=hf hh
    have hix:=h2.isL.ix .i64 m _ hm2
    obtain⟨v',h2',e1,a1,a2,a3,a4⟩:=lw ha hg (row:=aH (G.nodes.getD m bM)) rfl (by simp;omega)
    simp only[sim,af,θ,ξ,η,reduceCtorEq,ψ,ω,aa,Ff g',hh,h1,hix,e1,a3,eI]
    have ok:=hW.get hh
    have hp:=ok.p1
    have hp0:=ok.p0
    simp only[Int.toNat_natCast]at hp hp0 hf
    obtain⟨h'',w',i',t,r1,r2,r3⟩:=ih (G.nodes.getD m bM).parent (acc++[G.nodes.getD m bM]) h2' v' (.bool true) (by omega) (by
     intro hpp
     have:=ae.has_nn hpp
     simp only[List.length_append,List.length_singleton]
     omega) (by simpa using a1) a2
    refine⟨h'',w',i',t,r1,?_,r3⟩
    rw[ae.path_yes hW hh]
    simpa using r2
theorem ae.path_few {G:ae} (hW:G.Wf) (i:Int):(G.path i).length≤81:=by
 have key:∀ (f:Nat) (i:Int),(G.pathF f i).length≤f:=by
  intro f
  induction f with
  | zero=>intro i;simp[ae.pathF]
  | succ f ih=>
    intro i
    unfold ae.pathF
    split
    ·have:=ih (G.nodes.getD i.toNat bM).parent
     rw[List.length_cons]
     omega
    ·simp
 by_cases hh:G.has i=true
 ·have:=key (i.toNat+1) i
  simp[ae.has]at hh
  have:=hW.few
  unfold ae.path
  omega
 ·rw[ae.path_no (by simpa using hh)]
  simp
theorem qK (l:List bw):∀ r∈l.map aH,r.all oo=true:=by
 intro r hr
 obtain⟨n,_,rfl⟩:=List.mem_map.1 hr
 rfl
theorem tO (l:List Int):∀ r∈l.map (fun x=>[AV.int .i64 x]),r.all oo=true:=by
 intro r hr
 obtain⟨n,_,rfl⟩:=List.mem_map.1 hr
 rfl
theorem Hv (g:IsG h F J b G) (hW:G.Wf) (i:Int):aj Tryz.prog po 158 [.ptr b 0 0,.int .i64 i] h=some (.inl (ge tN ((G.path i).map aH)),h):=by
 refine ag O3 rfl ?_;unfold Fi
 obtain⟨h'',v',i',t,r1,r2,r3⟩:=Ip g hW [.ops [bm,dH],.ret] (i+1).toNat i [] h .nils .junk (by omega) (by
  intro hh
  have:=hW.few
  simp[ae.has]at hh
  simp;omega) (iI _ _ _) (ab.refl h)
 simp only[sim,af,θ,ξ,η,reduceCtorEq,ψ,ω,aa,r1,aI r3 (tW r2 (qK _))]
end
def sN:List RS:=[(.ops [G8]),(.ops [ay,pZ,aV,oW,(.g (.l 1) true .l (.bin (.int .i64) .leq (.l 0) (.c (.int .i64 15)))),wh,iS]),.ret]
theorem z8:FnR Tryz.prog po 120 1 2 [0,2] sN [(.v 1)] true:=by refine⟨_,_,Tryz.func120,rfl,rfl,?_,?_,?_,?_,?_⟩<;>kernel_rfl
def FA:List RS:=[iC,(.ops [ay,bk,SE,dH]),.ret]
theorem RC:FnR Tryz.prog po 160 2 3 [0,1,4] FA [(.v 2)] true:=by refine⟨_,_,Tryz.func160,rfl,rfl,?_,?_,?_,?_,?_⟩<;>kernel_rfl
section
variable {h:AH} {F J:Nat→Prop} {b:Nat} {G:ae}
theorem SH (x y:Int):aj Tryz.prog po 160 [.int .i64 x,.int .i64 y] h=some (.inl (.int .i64 (qe x y)),h):=by
 refine ag RC rfl ?_;unfold FA
 simp only[sim,af,θ,ξ,η,reduceCtorEq,ψ,ω,aa]
 rfl
theorem pB (x:Int):aj Tryz.prog po 120 [.int .i64 x] h=some (.inl (.bool (gX x)),h):=by
 refine ag z8 rfl ?_;unfold sN
 by_cases h0:0≤x<;>simp only[sim,af,θ,ξ,η,reduceCtorEq,ψ,ω,aa,h0,gX]
theorem JO (x:Int):aj Tryz.prog po 96 [.int .i64 x] h=some (.inl (.bool (iY x)),h):=by
 refine ag T8 rfl ?_;unfold JS
 by_cases h0:0≤x<;>simp only[sim,af,θ,ξ,η,reduceCtorEq,ψ,ω,aa,h0,iY]
def dA (G:ae):Bool→Int→List bw→Int
 | _,r,[]=>r
 | first,r,n::l=>if dm G n then 0 else dA G false (qe (if first then 15 else r) n.rights) l
theorem nM (G:ae):∀ (l:List bw) (r:Int),dA G false r l=if l.any (dm G)then 0 else l.foldl (fun r n=>qe r n.rights) r
 | [],r=>rfl
 | n::l,r=>by
   simp only[dA,List.any_cons,List.foldl_cons,Bool.false_eq_true,if_false]
   rw[nM G l]
   by_cases hc:dm G n=true<;>simp[hc]
theorem zy (G:ae) (i:Int):dA G true 0 (G.path i)=G.rights i:=by
 unfold ae.rights
 cases hp:G.path i with
 | nil=>simp[dA]
 | cons n l=>
   simp only[dA,if_true,nM,reduceCtorEq,false_or,List.any_cons,List.foldl_cons]
   cases hc:dm G n<;>simp
theorem CM (g:IsG h F J b G) (v1 p:AV) (P:List bw) (hp:IsL tN p (P.map aH)) (hP:P.length≤1000):∀ (l pre:List bw) (r:Int) (h':AH) (v4 v5 t1 t2 t3:AV),P=pre++l→ab h h'→
  cFR true [.v 2] h (aC (aj Tryz.prog po) 12 [.lp gI,.ss [],.blk 0,.ss [.ops [bm,dH],.ret]] [.ptr b 0 0,v1,.int .i64 0,.int .i64 r,v4,v5,p,.int .i64 P.length,.int .i64 pre.length,t1,t2,t3] [] h')=
   some (.inl (.int .i64 (dA G pre.isEmpty r l)),h):=by
 intro l
 induction l with
 | nil=>
   intro pre r h' v4 v5 t1 t2 t3 e hg
   rw[aG gI.eq_1]
   have:¬ ((pre.length:Int)<(P.length:Int)):=by rw[e];simp
   simp only[sim,af,θ,ξ,η,reduceCtorEq,ψ,ω,aa,this,dA,aI hg (rfl:wkA (.int .i64 r)=_)]
 | cons n l ih=>
   intro pre r h' v4 v5 t1 t2 t3 e hg
   rw[aG gI.eq_1]
   have hlt:(pre.length:Int)<(P.length:Int):=by rw[e];simp;omega
   have hix:=hp.ix .i64 pre.length (aH n) (by rw[e];simp)
   have hg2:ab h (h'.push [aH n]):=hg.trans (ab.push _ _)
   have hw:=w64 (n:=(pre.length:Int)+1) (by omega) (by omega)
   have gO:=YG (g.grew hg2)
   have hemp:pre.isEmpty=decide ((pre.length:Int)=0):=by cases pre<;>simp<;>omega
   have fin:∀ (r':Int) (v4 v5 t1 t2 t3:AV),cFR true [.v 2] h (aC (aj Tryz.prog po) 12 [.lp gI,.ss [],.blk 0,.ss [.ops [bm,dH],.ret]] [.ptr b 0 0,v1,.int .i64 0,.int .i64 r',v4,v5,p,.int .i64 P.length,.int .i64 ((pre.length:Int)+1),t1,t2,t3] [] (h'.push [aH n]))=some (.inl (.int .i64 (dA G false r' l)),h):=by
    intro r' v4 v5 t1 t2 t3
    have:=ih (pre++[n]) r' (h'.push [aH n]) v4 v5 t1 t2 t3 (by simp[e]) hg2
    have e1:(pre++[n]).isEmpty=false:=by cases pre<;>rfl
    have e2:((pre++[n]).length:Int)=(pre.length:Int)+1:=by simp
    rw[e1,e2]at this
    exact this
   by_cases h0:0≤n.gate
   ·cases hO:G.isOpen n.gate
    ·have hc:dm G n=true:=by simp[dm,h0,hO]
     simp only[sim,af,θ,ξ,η,reduceCtorEq,ψ,ω,aa,hlt,hix,eI,h0,gO,hO,dA,hc,aI hg2 (rfl:wkA (.int .i64 0)=_)]
    ·have hc:dm G n=false:=by simp[dm,hO]
     cases hz:decide ((pre.length:Int)=0)<;>simp only[sim,af,θ,ξ,η,reduceCtorEq,ψ,ω,aa,hlt,hix,eI,h0,gO,hO,dA,hc,SH,hw,hz,hemp,fin]
   ·have hc:dm G n=false:=by simp[dm,h0]
    cases hz:decide ((pre.length:Int)=0)<;>simp only[sim,af,θ,ξ,η,reduceCtorEq,ψ,ω,aa,hlt,hix,eI,h0,gO,dA,hc,SH,hw,hz,hemp,fin]
theorem DI (g:IsG h F J b G) (hW:G.Wf) (i:Int):aj Tryz.prog po 145 [.ptr b 0 0,.int .i64 i] h=some (.inl (.int .i64 (G.rights i)),h):=by
 refine ag H9 rfl ?_;unfold xn
 have hl:=iL tN ((G.path i).map aH)
 have hloop:=CM g (.int .i64 i) (ge tN ((G.path i).map aH)) (G.path i) hl (by have:=ae.path_few hW i;omega) (G.path i) [] 0 h .junk .junk .junk .junk .junk rfl (ab.refl h)
 simp only[List.length_nil,Int.natCast_zero,List.isEmpty_nil,zy]at hloop
 simp only[sim,af,θ,ξ,η,reduceCtorEq,ψ,ω,aa,Hv g hW,hl.len,hl.fits,List.length_map]
 exact hloop
theorem Hs (id:Option Nat) (rows:List (List AV)) (hf:∀ r∈rows,r.all AV.one=true∧r.all oo=true) (hl:rows.length≤1000):
  aj Tryz.prog po 51 [.isl id tN rows] h=some (.inl (.isl none tN rows),h):=by
 refine ag zI rfl ?_;unfold sV
 have e1:aQ false tN (.isl (some h.ids) tN []) (.isl id tN rows) (h.fresh 0)=some (.isl (some h.ids) tN rows,if rows.length=0 then h.fresh 0 else(h.fresh 0).grow h.ids rows.length):=by
  simp only[aQ,cE,if_true,Option.bind_some]
  by_cases hz:rows.length=0
  ·simp[hz,pb,List.length_eq_zero_iff.1 hz]
  ·rw[if_neg hz,if_neg hz]
   unfold eS
   rw[if_pos ⟨by omega,by omega,by rw[List.all_eq_true];exact fun r hr=>(hf r hr).1⟩]
   simp[sc]
 have hg:ab h (if rows.length=0 then h.fresh 0 else(h.fresh 0).grow h.ids rows.length):=by
  split
  ·exact ab.fresh h 0
  ·exact(ab.fresh h 0).grow (Nat.le_refl _)
 have hw:wkA (.isl (some h.ids) tN rows)=some (.isl none tN rows):=by
  simp only[wkA,kE fun r hr=>(hf r hr).2,Option.map_some]
 simp only[sim,af,θ,ξ,η,reduceCtorEq,ψ,ω,aa,e1,aI hg hw]
theorem HM:aj Tryz.prog po 51 [.nils] h=some (.inl .nils,h):=by
 refine ag zI rfl ?_;unfold sV
 simp only[sim,af,θ,ξ,η,reduceCtorEq,ψ,ω,aa]
 exact aI (ab.refl h) rfl
theorem Us (g:IsG h F J b G) (hW:G.Wf):aj Tryz.prog po 15 [.ptr b 0 0] h=some (.inl (ge tN (G.nodes.map aH)),h):=by
 obtain⟨nv,sv,h1,h2, -⟩:=g.ex
 refine ag MD rfl ?_;unfold AS
 rcases h2 with⟨e1,rfl⟩ | ⟨id,_,e0,_,_,rfl⟩
 ·simp only[sim,af,θ,ξ,η,reduceCtorEq,ψ,ω,aa,h1,HM]
  rw[e1]
  exact aI (ab.refl h) rfl
 ·have hc:=Hs (h:=h) (some id) (G.nodes.map aH) (fun r hr=>⟨by obtain⟨n,_,rfl⟩:=List.mem_map.1 hr;rfl,qK _ r hr⟩) (by have:=hW.few;simp;omega)
  have hw:wkA (.isl none tN (G.nodes.map aH))=some (ge tN (G.nodes.map aH)):=by
   simp only[wkA,kE (qK _),Option.map_some,ge,if_neg e0]
  simp only[sim,af,θ,ξ,η,reduceCtorEq,ψ,ω,aa,h1,hc,aI (ab.refl h) hw]
theorem Om (g:IsG h F J b G) (hW:G.Wf) (i:Int):aj Tryz.prog po 162 [.ptr b 0 0,.int .i64 i] h=some (.inl (.tup [.agg (aH (G.target i).1),.bool (G.target i).2]),h):=by
 refine ag Gm rfl ?_;unfold xF
 have hl:=iL tN ((G.path i).map aH)
 have hw:∀ (n:bw) (x:Bool),wkA (.tup [.agg (aH n),.bool x])=some (.tup [.agg (aH n),.bool x]):=fun n x=>rfl
 have gp:=Hv (g.grew (ab.push h [[.int .i64 0,.int .i64 0,.int .i64 0,.int .i64 0,.int .i64 0,.int .i64 0]])) hW
 have hg1:∀ n:bw,ab h (h.push [aH n]):=fun n=>ab.push _ _
 have hd:∀ m:Nat,IntKind.wrap .i64 (m:Int)=m→True:=fun _ _=>trivial
 rcases List.eq_nil_or_concat (G.path i)with hz | ⟨pre,n,hz⟩
 ·have ht:G.target i=(bM,false):=by simp[ae.target,hz]
  rw[ht]
  have hlen:(G.path i).length=0:=by rw[hz];rfl
  simp only[sim,af,θ,ξ,η,reduceCtorEq,ψ,ω,aa,gp,hl.len,hl.fits,List.length_map,hlen,Int.natCast_zero]
  exact aI (hg1 bM) (hw bM false)
 ·rw[List.concat_eq_append]at hz
  have ht:G.target i=(n,true):=by
   unfold ae.target
   rw[hz]
   simp[List.getLastD_eq_getLast?]
  have hx:¬ (((pre.length+1:Nat):Int)=0):=by omega
  have hs:IntKind.wrap .i64 (((pre.length+1:Nat):Int) - 1)=(pre.length:Int):=by rw[w64]<;>(have:=ae.path_few hW i;rw[hz]at this;simp at this;omega)
  have hix:=hl.ix .i64 pre.length (aH n) (by rw[hz];simp)
  rw[ht]
  have hlen:(G.path i).length=pre.length+1:=by rw[hz];simp
  simp only[sim,af,θ,ξ,η,reduceCtorEq,ψ,ω,aa,gp,hl.len,hl.fits,List.length_map,hlen,hx,hs,hix,eI]
  exact aI (hg1 n) (hw n true)
theorem FO (p:AV) (P:List bw) (hp:IsL tN p (P.map aH)) (hP:P.length≤1000) (v0 v1:AV):∀ (l pre:List bw) (h':AH) (v v4 t1 t2:AV),P=pre++l→ab h h'→Acc h h' 3 v ((cM pre).map fun x=>[.int .i64 x])→
  cFR true [.v 2] h (aC (aj Tryz.prog po) 10 [.lp ko,.ss [],.blk 0,.ss [.ops [bm,dH],.ret]] [v0,v1,.nils,v,v4,p,.int .i64 P.length,.int .i64 pre.length,t1,t2] [] h')=
   some (.inl (ge 3 ((cM P).map fun x=>[.int .i64 x])),h):=by
 intro l
 induction l with
 | nil=>
   intro pre h' v v4 t1 t2 e hg ha
   rw[aG ko.eq_1]
   have hlt:¬ ((pre.length:Int)<(P.length:Int)):=by rw[e];simp
   rw[List.append_nil]at e
   rw[←e]at ha
   simp only[sim,af,θ,ξ,η,reduceCtorEq,ψ,ω,aa,hlt,aI hg (tW ha (tO _))]
 | cons n l ih=>
   intro pre h' v v4 t1 t2 e hg ha
   rw[aG ko.eq_1]
   have hlt:(pre.length:Int)<(P.length:Int):=by rw[e];simp;omega
   have hix:=hp.ix .i64 pre.length (aH n) (by rw[e];simp)
   have hg2:ab h (h'.push [aH n]):=hg.trans (ab.push _ _)
   have hw:=w64 (n:=(pre.length:Int)+1) (by omega) (by omega)
   have e2:((pre++[n]).length:Int)=(pre.length:Int)+1:=by simp
   have hfew:((cM pre).map fun x=>[AV.int .i64 x]).length≤1000000:=by
    have:=List.length_filter_le (fun n:bw=>decide (0≤n.gate)) pre
    have h2:pre.length≤P.length:=by rw[e];simp
    simp[cM];omega
   by_cases h0:0≤n.gate
   ·have hgo:cM (pre++[n])=cM pre++[n.gate]:=by simp[cM,h0]
    have ha2:Acc h (h'.push [aH n]) 3 v ((cM pre).map fun x=>[.int .i64 x]):=ha
    obtain⟨v',h2',e1,a1,a2,a3,a4⟩:=lw ha2 hg2 (row:=[.int .i64 n.gate]) rfl hfew
    simp only[gM]at e1
    have:=ih (pre++[n]) h2' v' (.ptr h'.n 0 0) (.bool true) (.bool true) (by simp[e]) a2 (by rw[hgo,List.map_append];exact a1)
    rw[e2]at this
    simp only[sim,af,θ,ξ,η,reduceCtorEq,ψ,ω,aa,hlt,hix,eI,h0,hw,e1,this]
   ·have hgo:cM (pre++[n])=cM pre:=by simp[cM,h0]
    have ha2:Acc h (h'.push [aH n]) 3 v ((cM pre).map fun x=>[.int .i64 x]):=ha
    have:=ih (pre++[n]) (h'.push [aH n]) v (.ptr h'.n 0 0) (.bool true) (.bool false) (by simp[e]) hg2 (by rw[hgo];exact ha2)
    rw[e2]at this
    simp only[sim,af,θ,ξ,η,reduceCtorEq,ψ,ω,aa,hlt,hix,eI,h0,hw,this]
theorem Ul (g:IsG h F J b G) (hW:G.Wf) (i:Int):aj Tryz.prog po 150 [.ptr b 0 0,.int .i64 i] h=some (.inl (ge 3 ((G.gatesC i).map fun x=>[.int .i64 x])),h):=by
 refine ag M6 rfl ?_;unfold Af
 have hl:=iL tN ((G.path i).map aH)
 have hloop:=FO (h:=h) (ge tN ((G.path i).map aH)) (G.path i) hl (by have:=ae.path_few hW i;omega) (.ptr b 0 0) (.int .i64 i) (G.path i) [] h .nils .junk .junk .junk rfl (ab.refl h) (iI _ _ _)
 simp only[List.length_nil,Int.natCast_zero]at hloop
 simp only[sim,af,θ,ξ,η,reduceCtorEq,ψ,ω,aa,Hv g hW,hl.len,hl.fits,List.length_map]
 exact hloop
end
end Go.Proofs.YtkdbjfncchmmpaaGreat
