/- The functions of the part 'vm' as lists of steps. -/
import Derived.Test.YtkdbjfncchmmpaaMg4
namespace Go.Proofs.Ytkdbjfncchmmpaa
open Nat (reduceAdd reduceSub reduceLeDiff reduceLT)
open List (replicate)
set_option linter.unusedSimpArgs false
set_option linter.unusedVariables false
open Go
def yC:List RS:=[(.ops [(.i (.v 0) (.mv (.c .nilp)))]),(.ops [(.i .l (.call (.c (.fn 68 [] [])) [])),(.i .l (.call (.c (.fn 69 [] [])) [])),(.i .l (.build [.nilp,.nilp,(.bool false),.nils,(.int .i64 0),(.int .i64 0),.nils,(.bool false),.nils,(.int .i64 0),(.int .i64 0),.nils,(.bool false),.nils,(.int .i64 0),(.int .i64 0),.nils,(.bool false),.nils,(.int .i64 0),(.int .i64 0),.nils] [(0,1),(1,1),(2,20)] [(0,(.l 1)),(1,(.l 0))])),(.i .l (.box 22 (.l 0))),(.i (.v 0) (.mv (.l 0)))]),.ret]
theorem If:FnR Try.prog po 39 0 1 [0] yC [(.v 0)] false:=⟨_,_,Try.func39,rfl,rfl,by kernel_rfl,by kernel_rfl,by kernel_rfl,by kernel_rfl,by kernel_rfl⟩
def sY:List RS:=[(.ops [(.i (.v 2) (.mv (.v 0)))]),(.cond (.v 2) [(.ops [(.i .l (.mv (.v 1))),(.i .l (.mki 127 (.l 0))),(.i .n (.pan (.l 0)))])] [])]
theorem yw:FnR Try.prog po 82 2 3 [0,1,4] sY [] true:=⟨_,_,Try.func82,rfl,rfl,by kernel_rfl,by kernel_rfl,by kernel_rfl,by kernel_rfl,by kernel_rfl⟩
def CV:List RS:=[(.ops [(.i (.v 1) (.mv (.c .nilp)))]),(.ops [(.i .l (.mv (.v 0))),(.i .l (.nilc (.l 0))),(.i .l (.fad 1 (.l 0))),(.i .l (.load false 1 (.l 0))),(.i .l (.mv (.v 0))),(.i .l (.nilc (.l 0))),(.i .l (.fad 1 (.l 0))),(.i .l (.load false 1 (.l 0))),(.i .l (.len false (some 126) (.l 0))),(.i .l (.bin (.int .i64) .sub (.l 0) (.c (.int .i64 1)))),(.i .l (.ixa (some 126) none (.l 6) (.l 0))),(.i (.v 1) (.mv (.l 0)))]),.ret]
theorem JX:FnR Try.prog po 81 1 2 [0,2] CV [(.v 1)] false:=⟨_,_,Try.func81,rfl,rfl,by kernel_rfl,by kernel_rfl,by kernel_rfl,by kernel_rfl,by kernel_rfl⟩
def Ej:List RS:=[(.ops [(.i (.v 1) (.alloc [(.int .i64 0),(.int .i64 0),.nils]))]),(.ops [(.i .l (.mv (.v 0))),(.i .l (.call (.c (.fn 81 [] [])) [(.l 0)])),(.i (.v 2) (.mv (.l 0)))]),(.ops [(.i .l (.mv (.v 2))),(.i .l (.nilc (.l 0))),(.i .l (.fad 6 (.l 0))),(.i .l (.load false 1 (.l 0))),(.i .l (.len false (some 29) (.l 0))),(.i .l (.bin (.int .i64) .sub (.l 0) (.c (.int .i64 1)))),(.i (.v 3) (.mv (.l 0)))]),(.ops [(.i .l (.mv (.v 2))),(.i .l (.nilc (.l 0))),(.i .l (.fad 6 (.l 0))),(.i .l (.load false 1 (.l 0))),(.i .l (.mv (.v 3))),(.i .l (.ixa (some 29) none (.l 1) (.l 0))),(.i .l (.load true 3 (.l 0))),(.i (.v 4) (.alloc [(.int .i64 0),(.int .i64 0),.nils])),(.i .n (.store 3 (.v 4) (.l 0)))]),(.ops [(.i .l (.mv (.v 2))),(.i .l (.mv (.v 2))),(.i .l (.nilc (.l 0))),(.i .l (.fad 6 (.l 0))),(.i .l (.load false 1 (.l 0))),(.i .l (.mv (.v 3))),(.i .l (.slc false (some 29) (.l 1) none (some (.l 0)))),(.i .l (.nilc (.l 6))),(.i .l (.fad 6 (.l 0))),(.i .n (.store 1 (.l 0) (.l 2)))]),(.ops [(.i .l (.load true 3 (.v 4))),(.i .n (.store 3 (.v 1) (.l 0)))]),.ret]
theorem KV:FnR Try.prog po 83 1 5 [0,2,3,4,5] Ej [(.cell true 3 1)] false:=⟨_,_,Try.func83,rfl,rfl,by kernel_rfl,by kernel_rfl,by kernel_rfl,by kernel_rfl,by kernel_rfl⟩
def sX:List RS:=[(.ops [(.i (.v 1) (.alloc [(.int .i64 0),(.int .i64 0),.nils]))]),(.ops [(.i .l (.mv (.v 0))),(.i .l (.build [(.int .i64 0),(.int .i64 0),.nils] [(0,1),(1,1),(2,1)] [(0,(.c (.int .i64 1))),(1,(.l 0))])),(.i .n (.store 3 (.v 1) (.l 0)))]),.ret]
theorem Cc:FnR Try.prog po 108 1 2 [0,2] sX [(.cell true 3 1)] true:=⟨_,_,Try.func108,rfl,rfl,by kernel_rfl,by kernel_rfl,by kernel_rfl,by kernel_rfl,by kernel_rfl⟩
def rW:List RS:=[(.ops [(.i (.v 2) (.box 3 (.v 0))),(.i (.v 3) (.alloc [(.int .i64 0),(.int .i64 0),.nils]))]),(.ops [(.i .l (.fad 0 (.v 2))),(.i .l (.load false 1 (.l 0))),(.i .l (.mv (.v 1))),(.i .l (.bin (.int .i64) .neq (.l 1) (.l 0))),(.i .l (.call (.c (.fn 82 [] [])) [(.l 0),(.c (.int .i64 2))]))]),(.ops [(.i .l (.load true 3 (.v 2))),(.i .n (.store 3 (.v 3) (.l 0)))]),.ret]
theorem yr:FnR Try.prog po 84 2 4 [0,1,2,4] rW [(.cell true 3 3)] true:=⟨_,_,Try.func84,rfl,rfl,by kernel_rfl,by kernel_rfl,by kernel_rfl,by kernel_rfl,by kernel_rfl⟩
def pt:List RS:=[(.ops [(.i (.v 1) (.box 3 (.v 0))),(.i (.v 2) (.alloc [(.int .i64 0),(.int .i64 0),.nils]))]),(.ops [(.i .l (.load true 3 (.v 1))),(.i .l (.call (.c (.fn 18 [] [])) [(.l 0)])),(.i .l (.bin (.int .i64) .neq (.l 0) (.c (.int .i64 0)))),(.i .l (.call (.c (.fn 82 [] [])) [(.l 0),(.c (.int .i64 3))]))]),(.ops [(.i .l (.load true 3 (.v 1))),(.i .n (.store 3 (.v 2) (.l 0)))]),.ret]
theorem vX:FnR Try.prog po 109 1 3 [0,1,2] pt [(.cell true 3 2)] true:=⟨_,_,Try.func109,rfl,rfl,by kernel_rfl,by kernel_rfl,by kernel_rfl,by kernel_rfl,by kernel_rfl⟩
def fg:List RS:=[(.ops [(.i (.v 3) (.mv (.c (.int .i64 0))))]),(.ops [(.i (.v 4) (.mv (.c (.bool false))))]),(.ops [(.i (.v 5) (.mv (.v 0)))]),(.block 0 [(.ops [(.i .l (.bin (.int .i64) .eql (.v 5) (.c (.int .i64 1)))),(.i (.v 6) (.mv (.l 0)))]),(.cond (.v 6) [(.ops [(.i .l (.mv (.v 1))),(.i .l (.mv (.v 2))),(.i .l (.bin (.int .i64) .add (.l 1) (.l 0))),(.i (.v 3) (.mv (.l 0)))]),.ret] [(.ops [(.i .l (.bin (.int .i64) .eql (.v 5) (.c (.int .i64 2)))),(.i (.v 7) (.mv (.l 0)))]),(.cond (.v 7) [(.ops [(.i .l (.mv (.v 1))),(.i .l (.mv (.v 2))),(.i .l (.bin (.int .i64) .sub (.l 1) (.l 0))),(.i (.v 3) (.mv (.l 0)))]),.ret] [(.ops [(.i .l (.bin (.int .i64) .eql (.v 5) (.c (.int .i64 3)))),(.i (.v 8) (.mv (.l 0)))]),(.cond (.v 8) [(.ops [(.i .l (.mv (.v 1))),(.i .l (.mv (.v 2))),(.i .l (.bin (.int .i64) .mul (.l 1) (.l 0))),(.i (.v 3) (.mv (.l 0)))]),.ret] [(.ops [(.i .l (.bin (.int .i64) .eql (.v 5) (.c (.int .i64 4)))),(.i (.v 9) (.mv (.l 0)))]),(.cond (.v 9) [(.ops [(.i .l (.mv (.v 1))),(.i .l (.mv (.v 2))),(.i .l (.bin (.int .i64) .lss (.l 1) (.l 0))),(.i (.v 4) (.mv (.l 0)))])] [(.ops [(.i .l (.bin (.int .i64) .eql (.v 5) (.c (.int .i64 5)))),(.i (.v 10) (.mv (.l 0)))]),(.cond (.v 10) [(.ops [(.i .l (.mv (.v 1))),(.i .l (.mv (.v 2))),(.i .l (.bin (.int .i64) .eql (.l 1) (.l 0))),(.i (.v 4) (.mv (.l 0)))])] [])])])])])]),(.ops [(.i (.v 11) (.mv (.v 4)))]),(.cond (.v 11) [(.ops [(.i (.v 3) (.mv (.c (.int .i64 1))))]),.ret] []),(.ops [(.i (.v 3) (.mv (.c (.int .i64 0))))]),.ret]
theorem fN:FnR Try.prog po 12 3 12 [0,1,2,6,7,8,9,14,19,24,29,34] fg [(.v 3)] true:=⟨_,_,Try.func12,rfl,rfl,by kernel_rfl,by kernel_rfl,by kernel_rfl,by kernel_rfl,by kernel_rfl⟩
def wV:List RS:=[(.ops [(.i (.v 3) (.box 3 (.v 1))),(.i (.v 4) (.mv (.c (.int .i64 0)))),(.i (.v 5) (.alloc [(.int .i64 0),(.int .i64 0),(.int .i64 0),(.int .i64 0),(.int .i64 0),(.int .i64 0)]))]),(.ops [(.i .l (.fad 1 (.v 3))),(.i .l (.load false 1 (.l 0))),(.i (.v 6) (.mv (.l 0)))]),(.ops [(.i .l (.mv (.v 0))),(.i .l (.nilc (.l 0))),(.i .l (.fad 0 (.l 0))),(.i .l (.load false 1 (.l 0))),(.i .l (.nilc (.l 0))),(.i .l (.fad 0 (.l 0))),(.i .l (.load false 1 (.l 0))),(.i .l (.mv (.v 6))),(.i .l (.call (.c (.fn 133 [] [])) [(.l 1),(.l 0)])),(.i .l (.mv (.v 2))),(.i .l (.call (.c (.fn 132 [] [])) [(.l 1),(.l 0)])),(.i .l (.un .not (.l 0))),(.i .l (.call (.c (.fn 82 [] [])) [(.l 0),(.c (.int .i64 9))]))]),(.ops [(.i .l (.mv (.v 0))),(.i .l (.nilc (.l 0))),(.i .l (.fad 0 (.l 0))),(.i .l (.load false 1 (.l 0))),(.i .l (.nilc (.l 0))),(.i .l (.fad 0 (.l 0))),(.i .l (.load false 1 (.l 0))),(.i .l (.mv (.v 6))),(.i .l (.call (.c (.fn 38 [] [])) [(.l 1),(.l 0)])),(.i .l (.mv (.l 0))),(.i .l (.ext (.l 0) 0)),(.i .l (.ext (.l 1) 1)),(.i (.v 7) (.alloc [(.int .i64 0),(.int .i64 0),(.int .i64 0),(.int .i64 0),(.int .i64 0),(.int .i64 0)])),(.i .n (.store 6 (.v 7) (.l 1))),(.i .l (.mv (.l 0)))]),(.ops [(.i .l (.mv (.v 6))),(.i .l (.load true 6 (.v 7))),(.i (.v 4) (.mv (.l 1))),(.i .n (.store 6 (.v 5) (.l 0)))]),.ret]
theorem Dg:FnR Try.prog po 135 3 8 [0,1,2,4,6,7,8,9] wV [(.v 4),(.cell true 6 5)] true:=⟨_,_,Try.func135,rfl,rfl,by kernel_rfl,by kernel_rfl,by kernel_rfl,by kernel_rfl,by kernel_rfl⟩
def lE:List RS:=[(.ops [(.i (.v 2) (.box 3 (.v 1)))]),(.ops [(.i .l (.mv (.v 0))),(.i .l (.load true 3 (.v 2))),(.i .l (.call (.c (.fn 84 [] [])) [(.l 0),(.c (.int .i64 4))])),(.i .l (.call (.c (.fn 135 [] [])) [(.l 2),(.l 0),(.c (.int .i64 1))])),(.i .l (.mv (.l 0))),(.i .l (.ext (.l 0) 0)),(.i .l (.ext (.l 1) 1)),(.i (.v 4) (.alloc [(.int .i64 0),(.int .i64 0),(.int .i64 0),(.int .i64 0),(.int .i64 0),(.int .i64 0)])),(.i (.v 3) (.mv (.l 1))),(.i .n (.store 6 (.v 4) (.l 0)))]),(.ops [(.i .l (.fad 4 (.v 4))),(.i .l (.load false 1 (.l 0))),(.i .l (.bin (.int .i64) .geq (.l 0) (.c (.int .i64 0)))),(.i .l (.call (.c (.fn 82 [] [])) [(.l 0),(.c (.int .i64 2))]))]),(.ops [(.i .l (.mv (.v 0))),(.i .l (.nilc (.l 0))),(.i .l (.fad 0 (.l 0))),(.i .l (.load false 1 (.l 0))),(.i .l (.nilc (.l 0))),(.i .l (.fad 1 (.l 0))),(.i .l (.load false 1 (.l 0))),(.i .l (.mv (.v 0))),(.i .l (.fad 3 (.v 4))),(.i .l (.load false 1 (.l 0))),(.i .l (.mv (.v 3))),(.i .l (.call (.c (.fn 81 [] [])) [(.l 3)])),(.ck [⟨none,false,1,(.l 9),(.l 8)⟩,⟨none,false,1,(.l 6),(.l 5)⟩,⟨none,false,1,(.l 3),(.l 2)⟩]),(.i .l (.nilc (.l 0))),(.i .l (.fad 0 (.l 0))),(.i .l (.load false 1 (.l 0))),(.i .l (.call (.c (.fn 136 [] [])) [(.l 8),(.l 0),(.l 5),(.l 4)])),(.i .l (.mv (.l 0))),(.i .l (.ext (.l 0) 0)),(.i .l (.ext (.l 1) 1)),(.i (.v 5) (.mv (.l 1))),(.i .l (.mv (.l 0)))]),(.ops [(.i .l (.mv (.v 0))),(.i .l (.mv (.v 5))),(.i .l (.call (.c (.fn 108 [] [])) [(.l 0)])),(.i .l (.call (.c (.fn 107 [] [])) [(.l 2),(.l 0)]))])]
theorem pe:FnR Try.prog po 123 2 6 [0,1,3,4,5,6] lE [] false:=⟨_,_,Try.func123,rfl,rfl,by kernel_rfl,by kernel_rfl,by kernel_rfl,by kernel_rfl,by kernel_rfl⟩
def iV:List RS:=[(.ops [(.i (.v 3) (.box 3 (.v 1))),(.i (.v 4) (.box 3 (.v 2)))]),(.ops [(.i .l (.load true 3 (.v 3))),(.i .l (.call (.c (.fn 84 [] [])) [(.l 0),(.c (.int .i64 4))]))]),(.ops [(.i .l (.load true 3 (.v 4))),(.i .l (.call (.c (.fn 84 [] [])) [(.l 0),(.c (.int .i64 1))]))]),(.ops [(.i .l (.mv (.v 0))),(.i .l (.load true 3 (.v 3))),(.i .l (.call (.c (.fn 135 [] [])) [(.l 1),(.l 0),(.c (.int .i64 2))])),(.i .l (.mv (.l 0))),(.i .l (.ext (.l 0) 0)),(.i .l (.ext (.l 1) 1)),(.i (.v 6) (.alloc [(.int .i64 0),(.int .i64 0),(.int .i64 0),(.int .i64 0),(.int .i64 0),(.int .i64 0)])),(.i (.v 5) (.mv (.l 1))),(.i .n (.store 6 (.v 6) (.l 0)))]),(.ops [(.i .l (.fad 4 (.v 6))),(.i .l (.load false 1 (.l 0))),(.i .l (.bin (.int .i64) .geq (.l 0) (.c (.int .i64 0)))),(.i .l (.call (.c (.fn 82 [] [])) [(.l 0),(.c (.int .i64 2))]))]),(.ops [(.i .l (.mv (.v 0))),(.i .l (.nilc (.l 0))),(.i .l (.fad 0 (.l 0))),(.i .l (.load false 1 (.l 0))),(.i .l (.nilc (.l 0))),(.i .l (.fad 1 (.l 0))),(.i .l (.load false 1 (.l 0))),(.i .l (.mv (.v 0))),(.i .l (.fad 3 (.v 6))),(.i .l (.load false 1 (.l 0))),(.i .l (.mv (.v 5))),(.i .l (.fad 1 (.v 4))),(.i .l (.load false 1 (.l 0))),(.i .l (.call (.c (.fn 81 [] [])) [(.l 5)])),(.ck [⟨none,false,1,(.l 11),(.l 10)⟩,⟨none,false,1,(.l 8),(.l 7)⟩,⟨none,false,1,(.l 5),(.l 4)⟩,⟨none,false,1,(.l 2),(.l 1)⟩]),(.i .l (.nilc (.l 0))),(.i .l (.fad 0 (.l 0))),(.i .l (.load false 1 (.l 0))),(.i .l (.call (.c (.fn 137 [] [])) [(.l 10),(.l 0),(.l 7),(.l 6),(.l 4)]))]),(.ops [(.i .l (.mv (.v 0))),(.i .l (.load true 3 (.v 4))),(.i .l (.call (.c (.fn 107 [] [])) [(.l 1),(.l 0)]))])]
theorem jQ:FnR Try.prog po 124 3 7 [0,1,2,4,5,6,7] iV [] false:=⟨_,_,Try.func124,rfl,rfl,by kernel_rfl,by kernel_rfl,by kernel_rfl,by kernel_rfl,by kernel_rfl⟩
def lq:List RS:=[(.ops [(.i (.v 4) (.box 3 (.v 1))),(.i (.v 5) (.alloc [(.int .i64 0),(.int .i64 0),.nils]))]),(.ops [(.i .l (.mv (.v 0))),(.i .l (.nilc (.l 0))),(.i .l (.fad 0 (.l 0))),(.i .l (.load false 1 (.l 0))),(.i .l (.nilc (.l 0))),(.i .l (.fad 0 (.l 0))),(.i .l (.load false 1 (.l 0))),(.i .l (.fad 1 (.v 4))),(.i .l (.load false 1 (.l 0))),(.i .l (.mv (.v 2))),(.i .l (.mv (.v 3))),(.i .l (.call (.c (.fn 79 [] [])) [(.l 4),(.l 2),(.l 1),(.l 0)])),(.i .l (.mv (.l 0))),(.i .l (.ext (.l 0) 0)),(.i .l (.ext (.l 1) 1)),(.i (.v 6) (.mv (.l 1))),(.i (.v 7) (.mv (.l 0)))]),(.ops [(.i .l (.mv (.v 7))),(.i .l (.bin (.int .i64) .neq (.l 0) (.c (.int .i64 0)))),(.i .l (.mv (.v 7))),(.i .l (.call (.c (.fn 82 [] [])) [(.l 1),(.l 0)]))]),(.ops [(.i .l (.mv (.v 6))),(.i .l (.build [(.int .i64 0),(.int .i64 0),.nils] [(0,1),(1,1),(2,1)] [(0,(.c (.int .i64 4))),(1,(.l 0))])),(.i .n (.store 3 (.v 5) (.l 0)))]),.ret]
theorem qm:FnR Try.prog po 125 4 8 [0,1,2,3,5,8,9,10] lq [(.cell true 3 5)] false:=⟨_,_,Try.func125,rfl,rfl,by kernel_rfl,by kernel_rfl,by kernel_rfl,by kernel_rfl,by kernel_rfl⟩
def lS:List RS:=[(.ops [(.i (.v 2) (.box 3 (.v 1)))]),(.ops [(.i .l (.load true 3 (.v 2))),(.i .l (.call (.c (.fn 84 [] [])) [(.l 0),(.c (.int .i64 4))]))]),(.ops [(.i .l (.mv (.v 0))),(.i .l (.nilc (.l 0))),(.i .l (.fad 0 (.l 0))),(.i .l (.load false 1 (.l 0))),(.i .l (.nilc (.l 0))),(.i .l (.fad 0 (.l 0))),(.i .l (.load false 1 (.l 0))),(.i .l (.call (.c (.fn 58 [] [])) [(.l 0)])),(.i .l (.mv (.l 0))),(.i .l (.ext (.l 0) 0)),(.i .l (.ext (.l 1) 1)),(.i (.v 3) (.mv (.l 1))),(.i (.v 4) (.mv (.l 0)))]),(.ops [(.i .l (.mv (.v 4))),(.i .l (.bin (.int .i64) .neq (.l 0) (.c (.int .i64 0)))),(.i .l (.mv (.v 4))),(.i .l (.call (.c (.fn 82 [] [])) [(.l 1),(.l 0)]))]),(.ops [(.i .l (.mv (.v 0))),(.i .l (.load true 3 (.v 2))),(.i .l (.mv (.v 3))),(.i .l (.call (.c (.fn 125 [] [])) [(.l 2),(.l 1),(.c (.int .i64 15)),(.l 0)])),(.i (.v 5) (.alloc [(.int .i64 0),(.int .i64 0),.nils])),(.i .n (.store 3 (.v 5) (.l 0)))]),(.ops [(.i .l (.mv (.v 0))),(.i .l (.load true 3 (.v 5))),(.i .l (.mv (.v 3))),(.i .l (.build [(.int .i64 0),(.int .i64 0),.nils] [(0,1),(1,1),(2,1)] [(0,(.c (.int .i64 5))),(1,(.l 0))])),(.i .l (.bsl false 29 [(.int .i64 0),(.int .i64 0),.nils] 3 2 [(0,(.l 2)),(1,(.l 0))])),(.i .l (.build [(.int .i64 0),(.int .i64 0),.nils] [(0,1),(1,1),(2,1)] [(0,(.c (.int .i64 2))),(2,(.l 0))])),(.i .l (.call (.c (.fn 107 [] [])) [(.l 5),(.l 0)]))])]
theorem nS:FnR Try.prog po 126 2 6 [0,1,3,4,5,6] lS [] false:=⟨_,_,Try.func126,rfl,rfl,by kernel_rfl,by kernel_rfl,by kernel_rfl,by kernel_rfl,by kernel_rfl⟩
def ua:List RS:=[(.ops [(.i (.v 2) (.box 10 (.v 1)))]),(.ops [(.i .l (.mv (.v 0))),(.i .l (.nilc (.l 0))),(.i .l (.fad 1 (.l 0))),(.i .l (.load false 1 (.l 0))),(.i .l (.len false (some 126) (.l 0))),(.i .l (.bin (.int .i64) .eql (.l 0) (.c (.int .i64 20)))),(.i .l (.call (.c (.fn 82 [] [])) [(.l 0),(.c (.int .i64 4))]))]),(.ops [(.i .l (.mv (.v 0))),(.i .l (.mv (.v 0))),(.i .l (.nilc (.l 0))),(.i .l (.fad 1 (.l 0))),(.i .l (.load false 1 (.l 0))),(.i .l (.load true 10 (.v 2))),(.i .l (.bsl true 126 [(.int .i64 0),(.int .i64 0),(.int .i64 0),(.int .i64 0),(.int .i64 0),.nils,.nils,.nils,(.bool false),.nils] 10 1 [(0,(.l 0))])),(.ck [⟨none,false,1,(.l 3),(.l 2)⟩]),(.i .l (.app true 126 (.l 2) (.l 0))),(.i .l (.nilc (.l 7))),(.i .l (.fad 1 (.l 0))),(.i .n (.store 1 (.l 0) (.l 2)))])]
theorem zs:FnR Try.prog po 127 2 3 [0,1,3] ua [] false:=⟨_,_,Try.func127,rfl,rfl,by kernel_rfl,by kernel_rfl,by kernel_rfl,by kernel_rfl,by kernel_rfl⟩
def iw:List RS:=[(.ops [(.i (.v 3) (.box 3 (.v 1))),(.i (.v 4) (.box 3 (.v 2)))]),(.ops [(.i .l (.mv (.v 0))),(.i .l (.load true 3 (.v 3))),(.i .l (.call (.c (.fn 84 [] [])) [(.l 0),(.c (.int .i64 4))])),(.i .l (.call (.c (.fn 135 [] [])) [(.l 2),(.l 0),(.c (.int .i64 8))])),(.i .l (.mv (.l 0))),(.i .l (.ext (.l 0) 0)),(.i .l (.ext (.l 1) 1)),(.i (.v 6) (.alloc [(.int .i64 0),(.int .i64 0),(.int .i64 0),(.int .i64 0),(.int .i64 0),(.int .i64 0)])),(.i (.v 5) (.mv (.l 1))),(.i .n (.store 6 (.v 6) (.l 0)))]),(.ops [(.i .l (.fad 4 (.v 6))),(.i .l (.load false 1 (.l 0))),(.i .l (.bin (.int .i64) .lss (.l 0) (.c (.int .i64 0)))),(.i .l (.call (.c (.fn 82 [] [])) [(.l 0),(.c (.int .i64 2))]))]),(.ops [(.i .l (.mv (.v 0))),(.i .l (.nilc (.l 0))),(.i .l (.fad 0 (.l 0))),(.i .l (.load false 1 (.l 0))),(.i .l (.fad 4 (.v 6))),(.i .l (.load false 1 (.l 0))),(.i .l (.nilc (.l 2))),(.i .l (.fad 2 (.l 0))),(.i .l (.ixa none (some (4,5)) (.l 0) (.l 2))),(.i .l (.load true 5 (.l 0))),(.i (.v 7) (.alloc [(.bool false),.nils,(.int .i64 0),(.int .i64 0),.nils])),(.ck [⟨none,false,1,(.l 7),(.l 6)⟩,⟨none,false,1,(.l 5),(.l 4)⟩,⟨none,true,5,(.l 1),(.l 0)⟩]),(.i .n (.store 5 (.v 7) (.l 0)))]),(.ops [(.i .l (.fad 0 (.v 7))),(.i .l (.load false 1 (.l 0))),(.i .l (.un .not (.l 0))),(.i .l (.mv (.l 0))),(.g (.l 0) false .l (.fad 5 (.v 6))),(.g (.l 1) false .l (.load false 1 (.l 0))),(.g (.l 2) false .l (.fad 1 (.v 7))),(.g (.l 3) false .l (.load false 1 (.l 0))),(.g (.l 4) false .l (.len false (some 158) (.l 0))),(.g (.l 5) false .l (.bin (.int .i64) .geq (.l 3) (.l 0))),(.i .l (.pick (.l 6) (.c (.bool true)) (.l 0))),(.i .l (.call (.c (.fn 82 [] [])) [(.l 0),(.c (.int .i64 8))]))]),(.ops [(.i .l (.mv (.v 0))),(.i .l (.nilc (.l 0))),(.i .l (.fad 1 (.l 0))),(.i .l (.load false 1 (.l 0))),(.i .l (.len false (some 126) (.l 0))),(.i .l (.bin (.int .i64) .eql (.l 0) (.c (.int .i64 20)))),(.i .l (.call (.c (.fn 82 [] [])) [(.l 0),(.c (.int .i64 4))]))]),(.ops [(.i .l (.mv (.v 0))),(.i .l (.nilc (.l 0))),(.i .l (.fad 0 (.l 0))),(.i .l (.load false 1 (.l 0))),(.i .l (.nilc (.l 0))),(.i .l (.fad 0 (.l 0))),(.i .l (.load false 1 (.l 0))),(.i .l (.mv (.v 5))),(.i .l (.call (.c (.fn 138 [] [])) [(.l 1),(.l 0)])),(.i (.v 8) (.mv (.l 0)))]),(.ops [(.i .l (.mv (.v 0))),(.i .l (.nilc (.l 0))),(.i .l (.fad 0 (.l 0))),(.i .l (.load false 1 (.l 0))),(.i .l (.nilc (.l 0))),(.i .l (.fad 0 (.l 0))),(.i .l (.load false 1 (.l 0))),(.i .l (.load true 3 (.v 4))),(.i .l (.mv (.v 8))),(.i .l (.call (.c (.fn 106 [] [])) [(.l 2),(.l 1),(.l 0)])),(.i .l (.mv (.l 0))),(.i .l (.ext (.l 0) 0)),(.i .l (.ext (.l 1) 1)),(.i (.v 9) (.alloc [(.int .i64 0),(.int .i64 0),.nils])),(.ck [⟨none,false,1,(.l 10),(.l 9)⟩,⟨none,false,1,(.l 7),(.l 6)⟩,⟨none,true,3,(.v 4),(.l 5)⟩]),(.i .n (.store 3 (.v 9) (.l 1))),(.i (.v 10) (.mv (.l 0)))]),(.ops [(.i .l (.mv (.v 10))),(.i .l (.bin (.int .i64) .neq (.l 0) (.c (.int .i64 0)))),(.i .l (.mv (.v 10))),(.i .l (.call (.c (.fn 82 [] [])) [(.l 1),(.l 0)]))]),(.ops [(.i .l (.mv (.v 0))),(.i .l (.fad 4 (.v 6))),(.i .l (.load false 1 (.l 0))),(.i .l (.fad 5 (.v 6))),(.i .l (.load false 1 (.l 0))),(.i .l (.load true 3 (.v 9))),(.i .l (.mv (.v 8))),(.i .l (.build [(.int .i64 0),(.int .i64 0),(.int .i64 0),(.int .i64 0),(.int .i64 0),.nils,.nils,.nils,(.bool false),.nils] [(0,1),(1,1),(2,1),(3,3),(6,1),(7,1),(8,1),(9,1)] [(0,(.l 4)),(1,(.l 2)),(3,(.l 1)),(6,(.c (.bool true))),(7,(.l 0))])),(.i .l (.call (.c (.fn 127 [] [])) [(.l 7),(.l 0)]))])]
theorem jC:FnR Try.prog po 128 3 11 [0,1,2,4,5,6,7,8,9,10,11] iw [] false:=⟨_,_,Try.func128,rfl,rfl,by kernel_rfl,by kernel_rfl,by kernel_rfl,by kernel_rfl,by kernel_rfl⟩
def tO:List RS:=[(.ops [(.i .l (.mv (.v 0))),(.i .l (.call (.c (.fn 83 [] [])) [(.l 0)])),(.i .l (.call (.c (.fn 84 [] [])) [(.l 0),(.c (.int .i64 2))])),(.i (.v 2) (.alloc [(.int .i64 0),(.int .i64 0),.nils])),(.i .n (.store 3 (.v 2) (.l 0)))]),(.ops [(.i .l (.mv (.v 0))),(.i .l (.fad 2 (.v 2))),(.i .l (.load false 1 (.l 0))),(.i .l (.mv (.v 1))),(.i .l (.ixa (some 29) none (.l 1) (.l 0))),(.i .l (.load true 3 (.l 0))),(.i .l (.call (.c (.fn 107 [] [])) [(.l 5),(.l 0)]))])]
theorem zy:FnR Try.prog po 110 2 3 [0,1,4] tO [] false:=⟨_,_,Try.func110,rfl,rfl,by kernel_rfl,by kernel_rfl,by kernel_rfl,by kernel_rfl,by kernel_rfl⟩
def cD:List RS:=[(.ops [(.i (.v 2) (.box 3 (.v 1)))]),(.ops [(.i .l (.mv (.v 0))),(.i .l (.call (.c (.fn 81 [] [])) [(.l 0)])),(.i (.v 3) (.mv (.l 0)))]),(.ops [(.i .l (.fad 0 (.v 2))),(.i (.v 10) (.load false 1 (.l 0)))]),(.block 0 [(.ops [(.i .l (.bin (.int .i64) .eql (.v 10) (.c (.int .i64 1)))),(.i (.v 11) (.mv (.l 0)))]),(.cond (.v 11) [(.ops [(.i .l (.mv (.v 0))),(.i .l (.build [(.int .i64 0),(.int .i64 0),.nils] [(0,1),(1,1),(2,1)] [])),(.i .l (.call (.c (.fn 107 [] [])) [(.l 1),(.l 0)]))])] [(.ops [(.i .l (.bin (.int .i64) .eql (.v 10) (.c (.int .i64 2)))),(.i (.v 12) (.mv (.l 0)))]),(.cond (.v 12) [(.ops [(.i .l (.mv (.v 0))),(.i .l (.fad 2 (.v 2))),(.i .l (.load false 1 (.l 0))),(.i .l (.call (.c (.fn 108 [] [])) [(.l 0)])),(.i .l (.call (.c (.fn 107 [] [])) [(.l 3),(.l 0)]))])] [(.ops [(.i .l (.bin (.int .i64) .eql (.v 10) (.c (.int .i64 3)))),(.i (.v 13) (.mv (.l 0)))]),(.cond (.v 13) [(.ops [(.i .l (.mv (.v 0))),(.i .l (.mv (.v 3))),(.i .l (.nilc (.l 0))),(.i .l (.fad 3 (.l 0))),(.i .l (.load true 3 (.l 0))),(.i .l (.call (.c (.fn 107 [] [])) [(.l 4),(.l 0)]))])] [(.ops [(.i .l (.bin (.int .i64) .eql (.v 10) (.c (.int .i64 4)))),(.i (.v 14) (.mv (.l 0)))]),(.cond (.v 14) [(.ops [(.i .l (.mv (.v 0))),(.i .l (.mv (.v 3))),(.i .l (.nilc (.l 0))),(.i .l (.fad 7 (.l 0))),(.i .l (.load false 1 (.l 0))),(.i .l (.mv (.v 3))),(.i .l (.nilc (.l 0))),(.i .l (.fad 7 (.l 0))),(.i .l (.load false 1 (.l 0))),(.i .l (.len false (some 29) (.l 0))),(.i .l (.bin (.int .i64) .sub (.l 0) (.c (.int .i64 1)))),(.i .l (.fad 1 (.v 2))),(.i .l (.load false 1 (.l 0))),(.i .l (.bin (.int .i64) .sub (.l 2) (.l 0))),(.i .l (.ixa (some 29) none (.l 9) (.l 0))),(.i .l (.load true 3 (.l 0))),(.i .l (.call (.c (.fn 107 [] [])) [(.l 15),(.l 0)]))])] [(.ops [(.i .l (.bin (.int .i64) .eql (.v 10) (.c (.int .i64 6)))),(.i (.v 15) (.mv (.l 0)))]),(.cond (.v 15) [(.ops [(.i .l (.mv (.v 0))),(.i .l (.call (.c (.fn 83 [] [])) [(.l 0)])),(.i .l (.mv (.v 0))),(.i .l (.call (.c (.fn 83 [] [])) [(.l 0)])),(.i (.v 4) (.alloc [(.int .i64 0),(.int .i64 0),.nils])),(.i (.v 5) (.alloc [(.int .i64 0),(.int .i64 0),.nils])),(.i .n (.store 3 (.v 4) (.l 2))),(.i .n (.store 3 (.v 5) (.l 0)))]),(.ops [(.i .l (.load true 3 (.v 5))),(.i .l (.call (.c (.fn 84 [] [])) [(.l 0),(.c (.int .i64 1))]))]),(.ops [(.i .l (.load true 3 (.v 4))),(.i .l (.call (.c (.fn 84 [] [])) [(.l 0),(.c (.int .i64 1))]))]),(.ops [(.i .l (.mv (.v 0))),(.i .l (.fad 1 (.v 2))),(.i .l (.load false 1 (.l 0))),(.i .l (.fad 1 (.v 5))),(.i .l (.load false 1 (.l 0))),(.i .l (.fad 1 (.v 4))),(.i .l (.load false 1 (.l 0))),(.i .l (.call (.c (.fn 12 [] [])) [(.l 4),(.l 2),(.l 0)])),(.i .l (.call (.c (.fn 108 [] [])) [(.l 0)])),(.i .l (.call (.c (.fn 107 [] [])) [(.l 8),(.l 0)]))])] [(.ops [(.i .l (.bin (.int .i64) .eql (.v 10) (.c (.int .i64 8)))),(.i (.v 16) (.mv (.l 0)))]),(.cond (.v 16) [(.ops [(.i .l (.mv (.v 0))),(.i .l (.call (.c (.fn 83 [] [])) [(.l 0)])),(.i .l (.mv (.v 0))),(.i .l (.call (.c (.fn 83 [] [])) [(.l 0)])),(.i (.v 6) (.alloc [(.int .i64 0),(.int .i64 0),.nils])),(.i (.v 7) (.alloc [(.int .i64 0),(.int .i64 0),.nils])),(.i .n (.store 3 (.v 6) (.l 2))),(.i .n (.store 3 (.v 7) (.l 0)))]),(.ops [(.i .l (.mv (.v 0))),(.i .l (.load true 3 (.v 7))),(.i .l (.load true 3 (.v 6))),(.i .l (.bsl false 29 [(.int .i64 0),(.int .i64 0),.nils] 3 2 [(0,(.l 1)),(1,(.l 0))])),(.i .l (.build [(.int .i64 0),(.int .i64 0),.nils] [(0,1),(1,1),(2,1)] [(0,(.c (.int .i64 2))),(2,(.l 0))])),(.i .l (.call (.c (.fn 109 [] [])) [(.l 0)])),(.i .l (.call (.c (.fn 107 [] [])) [(.l 5),(.l 0)]))])] [(.ops [(.i .l (.bin (.int .i64) .eql (.v 10) (.c (.int .i64 9)))),(.i (.v 17) (.mv (.l 0)))]),(.cond (.v 17) [(.ops [(.i .l (.mv (.v 0))),(.i .l (.call (.c (.fn 110 [] [])) [(.l 0),(.c (.int .i64 0))]))])] [(.ops [(.i .l (.bin (.int .i64) .eql (.v 10) (.c (.int .i64 10)))),(.i (.v 18) (.mv (.l 0)))]),(.cond (.v 18) [(.ops [(.i .l (.mv (.v 0))),(.i .l (.call (.c (.fn 110 [] [])) [(.l 0),(.c (.int .i64 1))]))])] [(.ops [(.i .l (.bin (.int .i64) .eql (.v 10) (.c (.int .i64 11)))),(.i (.v 19) (.mv (.l 0)))]),(.cond (.v 19) [(.ops [(.i .l (.mv (.v 0))),(.i .l (.call (.c (.fn 83 [] [])) [(.l 0)])),(.i (.v 8) (.alloc [(.int .i64 0),(.int .i64 0),.nils])),(.i .n (.store 3 (.v 8) (.l 0)))]),(.ops [(.i .l (.mv (.v 0))),(.i .l (.mv (.v 3))),(.i .l (.nilc (.l 0))),(.i .l (.fad 0 (.l 0))),(.i .l (.load false 1 (.l 0))),(.i .l (.load true 3 (.v 8))),(.i .l (.bsl false 29 [(.int .i64 0),(.int .i64 0),.nils] 3 1 [(0,(.l 0))])),(.ck [⟨none,false,1,(.l 3),(.l 2)⟩]),(.i .l (.build [(.int .i64 0),(.int .i64 0),.nils] [(0,1),(1,1),(2,1)] [(0,(.c (.int .i64 3))),(1,(.l 2)),(2,(.l 0))])),(.i .l (.call (.c (.fn 109 [] [])) [(.l 0)])),(.i .l (.call (.c (.fn 107 [] [])) [(.l 8),(.l 0)]))])] [(.ops [(.i .l (.bin (.int .i64) .eql (.v 10) (.c (.int .i64 12)))),(.i (.v 20) (.mv (.l 0)))]),(.cond (.v 20) [(.ops [(.i .l (.mv (.v 0))),(.i .l (.call (.c (.fn 83 [] [])) [(.l 0)])),(.i .l (.call (.c (.fn 84 [] [])) [(.l 0),(.c (.int .i64 3))])),(.i (.v 9) (.alloc [(.int .i64 0),(.int .i64 0),.nils])),(.i .n (.store 3 (.v 9) (.l 0)))]),(.ops [(.i .l (.fad 1 (.v 9))),(.i .l (.load false 1 (.l 0))),(.i .l (.mv (.v 3))),(.i .l (.nilc (.l 0))),(.i .l (.fad 0 (.l 0))),(.i .l (.load false 1 (.l 0))),(.i .l (.bin (.int .i64) .neq (.l 4) (.l 0))),(.i .l (.call (.c (.fn 82 [] [])) [(.l 0),(.c (.int .i64 10))]))]),(.ops [(.i .l (.mv (.v 0))),(.i .l (.fad 2 (.v 9))),(.i .l (.load false 1 (.l 0))),(.i .l (.ixa (some 29) none (.l 0) (.c (.int .i64 0)))),(.i .l (.load true 3 (.l 0))),(.i .l (.call (.c (.fn 107 [] [])) [(.l 4),(.l 0)]))])] [(.ops [(.i .l (.mv (.v 0))),(.i .l (.load true 3 (.v 2))),(.i .l (.call (.c (.fn 111 [] [])) [(.l 1),(.l 0)]))])])])])])])])])])])])])]
theorem cJ:FnR Try.prog po 86 2 21 [0,1,3,4,5,6,7,8,9,10,14,18,23,30,38,57,77,90,94,98,112] cD [] false:=⟨_,_,Try.func86,rfl,rfl,by kernel_rfl,by kernel_rfl,by kernel_rfl,by kernel_rfl,by kernel_rfl⟩
def bG:List RS:=[(.ops [(.i (.v 2) (.box 3 (.v 1)))]),(.ops [(.i .l (.mv (.v 0))),(.i .l (.call (.c (.fn 81 [] [])) [(.l 0)])),(.i (.v 3) (.mv (.l 0)))]),(.ops [(.i .l (.fad 0 (.v 2))),(.i (.v 11) (.load false 1 (.l 0)))]),(.block 0 [(.ops [(.i .l (.bin (.int .i64) .eql (.v 11) (.c (.int .i64 13)))),(.i (.v 12) (.mv (.l 0)))]),(.cond (.v 12) [(.ops [(.i .l (.mv (.v 0))),(.i .l (.mv (.v 0))),(.i .l (.call (.c (.fn 83 [] [])) [(.l 0)])),(.i .l (.call (.c (.fn 123 [] [])) [(.l 2),(.l 0)]))])] [(.ops [(.i .l (.bin (.int .i64) .eql (.v 11) (.c (.int .i64 14)))),(.i (.v 13) (.mv (.l 0)))]),(.cond (.v 13) [(.ops [(.i .l (.mv (.v 0))),(.i .l (.call (.c (.fn 83 [] [])) [(.l 0)])),(.i .l (.mv (.v 0))),(.i .l (.call (.c (.fn 83 [] [])) [(.l 0)])),(.i (.v 4) (.alloc [(.int .i64 0),(.int .i64 0),.nils])),(.i (.v 5) (.alloc [(.int .i64 0),(.int .i64 0),.nils])),(.i .n (.store 3 (.v 4) (.l 2))),(.i .n (.store 3 (.v 5) (.l 0)))]),(.ops [(.i .l (.mv (.v 0))),(.i .l (.load true 3 (.v 5))),(.i .l (.load true 3 (.v 4))),(.i .l (.call (.c (.fn 124 [] [])) [(.l 2),(.l 1),(.l 0)]))])] [(.ops [(.i .l (.bin (.int .i64) .eql (.v 11) (.c (.int .i64 15)))),(.i (.v 14) (.mv (.l 0)))]),(.cond (.v 14) [(.ops [(.i .l (.mv (.v 0))),(.i .l (.mv (.v 0))),(.i .l (.mv (.v 0))),(.i .l (.fad 1 (.v 2))),(.i .l (.load false 1 (.l 0))),(.i .l (.call (.c (.fn 83 [] [])) [(.l 2)])),(.ck [⟨none,false,1,(.l 2),(.l 1)⟩]),(.i .l (.call (.c (.fn 84 [] [])) [(.l 0),(.c (.int .i64 4))])),(.ck [⟨none,false,1,(.l 3),(.l 2)⟩]),(.i .l (.call (.c (.fn 125 [] [])) [(.l 5),(.l 0),(.l 2),(.c (.int .i64 (-1)))])),(.i .l (.call (.c (.fn 107 [] [])) [(.l 7),(.l 0)]))])] [(.ops [(.i .l (.bin (.int .i64) .eql (.v 11) (.c (.int .i64 16)))),(.i (.v 15) (.mv (.l 0)))]),(.cond (.v 15) [(.ops [(.i .l (.mv (.v 0))),(.i .l (.mv (.v 0))),(.i .l (.call (.c (.fn 83 [] [])) [(.l 0)])),(.i .l (.call (.c (.fn 126 [] [])) [(.l 2),(.l 0)]))])] [(.ops [(.i .l (.bin (.int .i64) .eql (.v 11) (.c (.int .i64 17)))),(.i (.v 16) (.mv (.l 0)))]),(.cond (.v 16) [(.ops [(.i .l (.mv (.v 0))),(.i .l (.nilc (.l 0))),(.i .l (.fad 0 (.l 0))),(.i .l (.load false 1 (.l 0))),(.i .l (.nilc (.l 0))),(.i .l (.fad 0 (.l 0))),(.i .l (.load false 1 (.l 0))),(.i .l (.mv (.v 0))),(.i .l (.call (.c (.fn 83 [] [])) [(.l 0)])),(.ck [⟨none,false,1,(.l 6),(.l 5)⟩,⟨none,false,1,(.l 3),(.l 2)⟩]),(.i .l (.call (.c (.fn 84 [] [])) [(.l 0),(.c (.int .i64 5))])),(.ck [⟨none,false,1,(.l 7),(.l 6)⟩,⟨none,false,1,(.l 4),(.l 3)⟩]),(.i .l (.fld false 1 1 (.l 0))),(.i .l (.call (.c (.fn 57 [] [])) [(.l 4),(.l 0)]))]),(.ops [(.i .l (.mv (.v 0))),(.i .l (.build [(.int .i64 0),(.int .i64 0),.nils] [(0,1),(1,1),(2,1)] [])),(.i .l (.call (.c (.fn 107 [] [])) [(.l 1),(.l 0)]))])] [(.ops [(.i .l (.bin (.int .i64) .eql (.v 11) (.c (.int .i64 18)))),(.i (.v 17) (.mv (.l 0)))]),(.cond (.v 17) [(.ops [(.i .l (.mv (.v 0))),(.i .l (.call (.c (.fn 83 [] [])) [(.l 0)])),(.i (.v 6) (.alloc [(.int .i64 0),(.int .i64 0),.nils])),(.i .n (.store 3 (.v 6) (.l 0)))]),(.ops [(.i .l (.mv (.v 0))),(.i .l (.mv (.v 3))),(.i .l (.nilc (.l 0))),(.i .l (.fad 0 (.l 0))),(.i .l (.load false 1 (.l 0))),(.i .l (.fad 1 (.v 2))),(.i .l (.load false 1 (.l 0))),(.i .l (.load true 3 (.v 6))),(.i .l (.build [(.int .i64 0),(.int .i64 0),(.int .i64 0),(.int .i64 0),(.int .i64 0),.nils,.nils,.nils,(.bool false),.nils] [(0,1),(1,1),(2,1),(3,3),(6,1),(7,1),(8,1),(9,1)] [(0,(.l 3)),(1,(.l 1)),(3,(.l 0))])),(.i .l (.call (.c (.fn 127 [] [])) [(.l 8),(.l 0)]))])] [(.ops [(.i .l (.bin (.int .i64) .eql (.v 11) (.c (.int .i64 19)))),(.i (.v 18) (.mv (.l 0)))]),(.cond (.v 18) [(.ops [(.i .l (.mv (.v 0))),(.i .l (.call (.c (.fn 83 [] [])) [(.l 0)])),(.i .l (.mv (.v 0))),(.i .l (.call (.c (.fn 83 [] [])) [(.l 0)])),(.i (.v 7) (.alloc [(.int .i64 0),(.int .i64 0),.nils])),(.i (.v 8) (.alloc [(.int .i64 0),(.int .i64 0),.nils])),(.i .n (.store 3 (.v 7) (.l 2))),(.i .n (.store 3 (.v 8) (.l 0)))]),(.ops [(.i .l (.mv (.v 0))),(.i .l (.load true 3 (.v 8))),(.i .l (.load true 3 (.v 7))),(.i .l (.call (.c (.fn 128 [] [])) [(.l 2),(.l 1),(.l 0)]))])] [(.ops [(.i .l (.bin (.int .i64) .eql (.v 11) (.c (.int .i64 20)))),(.i (.v 19) (.mv (.l 0)))]),(.cond (.v 19) [(.ops [(.i .l (.mv (.v 0))),(.i .l (.nilc (.l 0))),(.i .l (.fad 0 (.l 0))),(.i .l (.load false 1 (.l 0))),(.i .l (.mv (.v 3))),(.i .l (.nilc (.l 0))),(.i .l (.fad 0 (.l 0))),(.i .l (.load false 1 (.l 0))),(.i .l (.nilc (.l 4))),(.i .l (.fad 2 (.l 0))),(.i .l (.ixa none (some (4,5)) (.l 0) (.l 2))),(.i (.v 9) (.mv (.l 0)))]),(.ops [(.i .l (.mv (.v 9))),(.i .l (.nilc (.l 0))),(.i .l (.fad 2 (.l 0))),(.i .l (.load true 3 (.l 0))),(.i (.v 10) (.alloc [(.int .i64 0),(.int .i64 0),.nils])),(.i .n (.store 3 (.v 10) (.l 0)))]),(.ops [(.i .l (.mv (.v 9))),(.i .l (.mv (.v 0))),(.i .l (.call (.c (.fn 83 [] [])) [(.l 0)])),(.i .l (.nilc (.l 2))),(.i .l (.fad 2 (.l 0))),(.i .n (.store 3 (.l 0) (.l 2)))]),(.ops [(.i .l (.mv (.v 0))),(.i .l (.load true 3 (.v 10))),(.i .l (.call (.c (.fn 107 [] [])) [(.l 1),(.l 0)]))])] [(.ops [(.i .l (.bin (.int .i64) .eql (.v 11) (.c (.int .i64 21)))),(.i (.v 20) (.mv (.l 0)))]),(.cond (.v 20) [(.ops [(.i .l (.mv (.v 0))),(.i .l (.mv (.v 0))),(.i .l (.nilc (.l 0))),(.i .l (.fad 0 (.l 0))),(.i .l (.load false 1 (.l 0))),(.i .l (.mv (.v 3))),(.i .l (.nilc (.l 0))),(.i .l (.fad 0 (.l 0))),(.i .l (.load false 1 (.l 0))),(.i .l (.nilc (.l 4))),(.i .l (.fad 2 (.l 0))),(.i .l (.ixa none (some (4,5)) (.l 0) (.l 2))),(.i .l (.fad 2 (.l 0))),(.i .l (.load true 3 (.l 0))),(.i .l (.call (.c (.fn 107 [] [])) [(.l 13),(.l 0)]))])] [])])])])])])])])])])]
theorem bR:FnR Try.prog po 111 2 21 [0,1,3,4,5,6,7,8,9,10,11,15,16,22,32,43,49,66,80,90,115] bG [] false:=⟨_,_,Try.func111,rfl,rfl,by kernel_rfl,by kernel_rfl,by kernel_rfl,by kernel_rfl,by kernel_rfl⟩
def jT:List RS:=[(.ops [(.i (.v 1) (.alloc [(.int .i64 0),(.int .i64 0),.nils])),(.i (.v 2) (.mv (.c (.bool false))))]),(.ops [(.i .l (.mv (.v 0))),(.i .l (.call (.c (.fn 83 [] [])) [(.l 0)])),(.i (.v 3) (.alloc [(.int .i64 0),(.int .i64 0),.nils])),(.i .n (.store 3 (.v 3) (.l 0)))]),(.ops [(.i .l (.mv (.v 0))),(.i .l (.call (.c (.fn 81 [] [])) [(.l 0)])),(.i .l (.nilc (.l 0))),(.i .l (.load true 10 (.l 0))),(.i (.v 4) (.alloc [(.int .i64 0),(.int .i64 0),(.int .i64 0),(.int .i64 0),(.int .i64 0),.nils,.nils,.nils,(.bool false),.nils])),(.i .n (.store 10 (.v 4) (.l 0)))]),(.ops [(.i .l (.fad 8 (.v 4))),(.i (.v 7) (.load false 1 (.l 0)))]),(.cond (.v 7) [(.ops [(.i .l (.mv (.v 0))),(.i .l (.nilc (.l 0))),(.i .l (.fad 0 (.l 0))),(.i .l (.load false 1 (.l 0))),(.i .l (.nilc (.l 0))),(.i .l (.fad 0 (.l 0))),(.i .l (.load false 1 (.l 0))),(.i .l (.load true 3 (.v 3))),(.i .l (.fad 9 (.v 4))),(.i .l (.load false 1 (.l 0))),(.i .l (.call (.c (.fn 106 [] [])) [(.l 3),(.l 2),(.l 0)])),(.i .l (.mv (.l 0))),(.i .l (.ext (.l 0) 0)),(.i .l (.ext (.l 1) 1)),(.i (.v 5) (.alloc [(.int .i64 0),(.int .i64 0),.nils])),(.ck [⟨none,false,1,(.l 11),(.l 10)⟩,⟨none,false,1,(.l 8),(.l 7)⟩,⟨none,true,3,(.v 3),(.l 6)⟩,⟨none,false,1,(.l 5),(.l 4)⟩]),(.i .n (.store 3 (.v 5) (.l 1))),(.i (.v 6) (.mv (.l 0)))]),(.ops [(.i .l (.mv (.v 6))),(.i .l (.bin (.int .i64) .neq (.l 0) (.c (.int .i64 0)))),(.i .l (.mv (.v 6))),(.i .l (.call (.c (.fn 82 [] [])) [(.l 1),(.l 0)]))]),(.ops [(.i .l (.load true 3 (.v 5))),(.i .n (.store 3 (.v 3) (.l 0)))])] []),(.ops [(.i .l (.mv (.v 0))),(.i .l (.mv (.v 0))),(.i .l (.nilc (.l 0))),(.i .l (.fad 1 (.l 0))),(.i .l (.load false 1 (.l 0))),(.i .l (.mv (.v 0))),(.i .l (.nilc (.l 0))),(.i .l (.fad 1 (.l 0))),(.i .l (.load false 1 (.l 0))),(.i .l (.len false (some 126) (.l 0))),(.i .l (.bin (.int .i64) .sub (.l 0) (.c (.int .i64 1)))),(.i .l (.slc false (some 126) (.l 6) none (some (.l 0)))),(.i .l (.nilc (.l 11))),(.i .l (.fad 1 (.l 0))),(.i .n (.store 1 (.l 0) (.l 2)))]),(.ops [(.i .l (.mv (.v 0))),(.i .l (.nilc (.l 0))),(.i .l (.fad 1 (.l 0))),(.i .l (.load false 1 (.l 0))),(.i .l (.len false (some 126) (.l 0))),(.i (.v 8) (.bin (.int .i64) .eql (.l 0) (.c (.int .i64 0))))]),(.cond (.v 8) [(.ops [(.i .l (.load true 3 (.v 3))),(.i .n (.store 3 (.v 1) (.l 0))),(.i (.v 2) (.mv (.c (.bool true))))]),.ret] []),(.ops [(.i .l (.mv (.v 0))),(.i .l (.load true 3 (.v 3))),(.i .l (.call (.c (.fn 107 [] [])) [(.l 1),(.l 0)]))]),(.ops [(.i .l (.load true 3 (.v 3))),(.i .n (.store 3 (.v 1) (.l 0))),(.i (.v 2) (.mv (.c (.bool false))))]),.ret]
theorem lT:FnR Try.prog po 85 1 9 [0,2,3,4,5,6,7,15,54] jT [(.cell true 3 1),(.v 2)] false:=⟨_,_,Try.func85,rfl,rfl,by kernel_rfl,by kernel_rfl,by kernel_rfl,by kernel_rfl,by kernel_rfl⟩
def dt:List RS:=[(.ops [(.i (.v 1) (.alloc [(.int .i64 0),(.int .i64 0),.nils])),(.i (.v 2) (.mv (.c (.bool false))))]),(.ops [(.i .l (.mv (.v 0))),(.i .l (.call (.c (.fn 81 [] [])) [(.l 0)])),(.i (.v 3) (.mv (.l 0)))]),(.ops [(.i .l (.mv (.v 0))),(.i .l (.nilc (.l 0))),(.i .l (.fad 0 (.l 0))),(.i .l (.load false 1 (.l 0))),(.i .l (.mv (.v 3))),(.i .l (.nilc (.l 0))),(.i .l (.fad 0 (.l 0))),(.i .l (.load false 1 (.l 0))),(.i .l (.nilc (.l 4))),(.i .l (.fad 2 (.l 0))),(.i .l (.ixa none (some (4,5)) (.l 0) (.l 2))),(.i .l (.fad 1 (.l 0))),(.i .l (.load false 1 (.l 0))),(.i .l (.mv (.v 3))),(.i .l (.nilc (.l 0))),(.i .l (.fad 1 (.l 0))),(.i .l (.load false 1 (.l 0))),(.i .l (.ixa (some 158) none (.l 4) (.l 0))),(.i .l (.load false 1 (.l 0))),(.i .l (.mv (.v 3))),(.i .l (.nilc (.l 0))),(.i .l (.fad 2 (.l 0))),(.i .l (.load false 1 (.l 0))),(.i .l (.ixa (some 169) none (.l 4) (.l 0))),(.i .l (.load true 3 (.l 0))),(.i (.v 4) (.alloc [(.int .i64 0),(.int .i64 0),(.int .i64 0)])),(.ck [⟨none,false,1,(.l 22),(.l 21)⟩,⟨none,false,1,(.l 18),(.l 17)⟩,⟨none,false,1,(.l 13),(.l 12)⟩,⟨none,false,1,(.l 9),(.l 8)⟩,⟨none,false,1,(.l 7),(.l 6)⟩,⟨none,false,1,(.l 3),(.l 2)⟩,⟨none,true,3,(.l 1),(.l 0)⟩]),(.i .n (.store 3 (.v 4) (.l 0)))]),(.ops [(.i .l (.mv (.v 3))),(.i .l (.nilc (.l 0))),(.i .l (.fad 2 (.l 0))),(.i .l (.load false 1 (.l 0))),(.i .l (.bin (.int .i64) .add (.l 0) (.c (.int .i64 1)))),(.i .l (.nilc (.l 4))),(.i .l (.fad 2 (.l 0))),(.i .n (.store 1 (.l 0) (.l 2)))]),(.ops [(.i .l (.fad 0 (.v 4))),(.i (.v 6) (.load false 1 (.l 0)))]),(.block 0 [(.ops [(.i .l (.bin (.int .i64) .eql (.v 6) (.c (.int .i64 100)))),(.i (.v 7) (.mv (.l 0)))]),(.cond (.v 7) [(.ops [(.i .l (.mv (.v 0))),(.i .l (.nilc (.l 0))),(.i .l (.fad 2 (.l 0))),(.i .l (.load false 1 (.l 0))),(.i .l (.bin (.int .i64) .eql (.l 0) (.c (.int .i64 0)))),(.i .l (.call (.c (.fn 82 [] [])) [(.l 0),(.c (.int .i64 12))]))]),(.ops [(.i .l (.mv (.v 0))),(.i .l (.nilc (.l 0))),(.i .l (.fad 2 (.l 0))),(.i .l (.load false 1 (.l 0))),(.i .l (.bin (.int .i64) .sub (.l 0) (.c (.int .i64 1)))),(.i .l (.nilc (.l 4))),(.i .l (.fad 2 (.l 0))),(.i .n (.store 1 (.l 0) (.l 2)))])] [(.ops [(.i .l (.bin (.int .i64) .eql (.v 6) (.c (.int .i64 101)))),(.i (.v 8) (.mv (.l 0)))]),(.cond (.v 8) [(.ops [(.i .l (.mv (.v 0))),(.i .l (.call (.c (.fn 83 [] [])) [(.l 0)])),(.i (.v 5) (.alloc [(.int .i64 0),(.int .i64 0),.nils])),(.i .n (.store 3 (.v 5) (.l 0)))]),(.ops [(.i .l (.mv (.v 3))),(.i .l (.nilc (.l 0))),(.i .l (.fad 7 (.l 0))),(.i .l (.load false 1 (.l 0))),(.i .l (.load true 3 (.v 5))),(.i .l (.len false (some 29) (.l 1))),(.i .l (.bsl true 29 [(.int .i64 0),(.int .i64 0),.nils] 3 1 [(0,(.c (.agg [(.int .i64 0),(.int .i64 0),.nils])))])),(.ck [⟨none,false,1,(.l 4),(.l 3)⟩,⟨none,true,3,(.v 5),(.l 2)⟩]),(.i .l (.app true 29 (.l 3) (.l 0))),(.i .l (.ixa (some 29) none (.l 0) (.l 2))),(.i .l (.nilc (.l 8))),(.i .l (.fad 7 (.l 0))),(.i .n (.store 3 (.l 2) (.l 6))),(.i .n (.store 1 (.l 0) (.l 3))),(.ck [⟨none,true,3,(.l 2),(.l 6)⟩])])] [(.ops [(.i .l (.bin (.int .i64) .eql (.v 6) (.c (.int .i64 102)))),(.i (.v 9) (.mv (.l 0)))]),(.cond (.v 9) [(.ops [(.i .l (.mv (.v 3))),(.i .l (.mv (.v 3))),(.i .l (.nilc (.l 0))),(.i .l (.fad 7 (.l 0))),(.i .l (.load false 1 (.l 0))),(.i .l (.mv (.v 3))),(.i .l (.nilc (.l 0))),(.i .l (.fad 7 (.l 0))),(.i .l (.load false 1 (.l 0))),(.i .l (.len false (some 29) (.l 0))),(.i .l (.bin (.int .i64) .sub (.l 0) (.c (.int .i64 1)))),(.i .l (.slc false (some 29) (.l 6) none (some (.l 0)))),(.i .l (.nilc (.l 11))),(.i .l (.fad 7 (.l 0))),(.i .n (.store 1 (.l 0) (.l 2)))])] [(.ops [(.i .l (.bin (.int .i64) .eql (.v 6) (.c (.int .i64 103)))),(.i (.v 10) (.mv (.l 0)))]),(.cond (.v 10) [(.ops [(.i .l (.mv (.v 0))),(.i .l (.call (.c (.fn 83 [] [])) [(.l 0)])),(.i .l (.call (.c (.fn 84 [] [])) [(.l 0),(.c (.int .i64 1))])),(.i .l (.fld false 1 1 (.l 0))),(.i (.v 11) (.bin (.int .i64) .eql (.l 0) (.c (.int .i64 0))))]),(.cond (.v 11) [(.ops [(.i .l (.mv (.v 3))),(.i .l (.fad 1 (.v 4))),(.i .l (.load false 1 (.l 0))),(.i .l (.nilc (.l 2))),(.i .l (.fad 2 (.l 0))),(.i .n (.store 1 (.l 0) (.l 2)))])] [])] [(.ops [(.i .l (.bin (.int .i64) .eql (.v 6) (.c (.int .i64 104)))),(.i (.v 12) (.mv (.l 0)))]),(.cond (.v 12) [(.ops [(.i .l (.mv (.v 3))),(.i .l (.fad 1 (.v 4))),(.i .l (.load false 1 (.l 0))),(.i .l (.nilc (.l 2))),(.i .l (.fad 2 (.l 0))),(.i .n (.store 1 (.l 0) (.l 2)))])] [(.ops [(.i .l (.bin (.int .i64) .eql (.v 6) (.c (.int .i64 105)))),(.i (.v 13) (.mv (.l 0)))]),(.cond (.v 13) [(.ops [(.i .l (.mv (.v 0))),(.i .l (.call (.c (.fn 85 [] [])) [(.l 0)])),(.i .l (.ext (.l 0) 0)),(.i .l (.ext (.l 1) 1)),(.i .n (.store 3 (.v 1) (.l 1))),(.i (.v 2) (.mv (.l 0)))]),.ret] [(.ops [(.i .l (.mv (.v 0))),(.i .l (.load true 3 (.v 4))),(.i .l (.call (.c (.fn 86 [] [])) [(.l 1),(.l 0)]))])])])])])])])]),(.ops [(.i .l (.build [(.int .i64 0),(.int .i64 0),.nils] [(0,1),(1,1),(2,1)] [])),(.i .n (.store 3 (.v 1) (.l 0))),(.i (.v 2) (.mv (.c (.bool false))))]),.ret]
theorem dQ:FnR Try.prog po 48 1 14 [0,2,3,4,5,6,42,46,61,76,92,98,104,111] dt [(.cell true 3 1),(.v 2)] false:=⟨_,_,Try.func48,rfl,rfl,by kernel_rfl,by kernel_rfl,by kernel_rfl,by kernel_rfl,by kernel_rfl⟩
def C9:List RS:=[(.ops [(.i (.v 0) (.mv (.c .nilp)))]),(.ops [(.i .l (.build [(.int .i64 0),(.int .i64 0),(.int .i64 0),(.int .i64 0),(.int .i64 0),(.int .i64 0),(.int .i64 0),(.int .i64 0),(.int .i64 0),(.int .i64 0),(.int .i64 0),(.int .i64 0),.nils] [(0,12),(12,1)] [])),(.i .l (.box 13 (.l 0))),(.i (.v 0) (.mv (.l 0)))]),.ret]
theorem Kx:FnR Try.prog po 69 0 1 [0] C9 [(.v 0)] false:=⟨_,_,Try.func69,rfl,rfl,by kernel_rfl,by kernel_rfl,by kernel_rfl,by kernel_rfl,by kernel_rfl⟩
def zS:List RS:=[(.ops [(.i (.v 4) (.mv (.c (.int .i64 0)))),(.i (.v 5) (.mv (.c (.bool false))))]),(.ops [(.i .l (.mv (.v 2))),(.i .l (.call (.c (.fn 87 [] [])) [(.l 0)])),(.i (.v 6) (.un .not (.l 0)))]),(.cond (.v 6) [(.ops [(.i (.v 4) (.mv (.c (.int .i64 0)))),(.i (.v 5) (.mv (.c (.bool false))))]),.ret] []),(.ops [(.i .l (.mv (.v 0))),(.i .l (.mv (.v 0))),(.i .l (.nilc (.l 0))),(.i .l (.fad 12 (.l 0))),(.i .l (.load false 1 (.l 0))),(.i .l (.mv (.v 1))),(.i .l (.mv (.v 2))),(.i .l (.mv (.v 3))),(.i .l (.build [(.int .i64 0),(.int .i64 0),(.int .i64 0),(.int .i64 0)] [(0,1),(1,1),(2,1),(3,1)] [(0,(.l 2)),(1,(.l 1)),(2,(.c (.int .i64 1))),(3,(.l 0))])),(.i .l (.bsl false 98 [(.int .i64 0),(.int .i64 0),(.int .i64 0),(.int .i64 0)] 4 1 [(0,(.l 0))])),(.i .l (.app false 98 (.l 5) (.l 0))),(.i .l (.nilc (.l 10))),(.i .l (.fad 12 (.l 0))),(.i .n (.store 1 (.l 0) (.l 2)))]),(.ops [(.i .l (.mv (.v 0))),(.i .l (.mv (.v 2))),(.i .l (.nilc (.l 1))),(.i .l (.fad 0 (.l 0))),(.i .l (.ixa none (some (12,1)) (.l 0) (.l 2))),(.i .l (.load false 1 (.l 0))),(.i (.v 4) (.mv (.l 0))),(.i (.v 5) (.mv (.c (.bool true))))]),.ret]
theorem Hc:FnR Try.prog po 136 4 7 [0,1,2,3,8,9,12] zS [(.v 4),(.v 5)] false:=⟨_,_,Try.func136,rfl,rfl,by kernel_rfl,by kernel_rfl,by kernel_rfl,by kernel_rfl,by kernel_rfl⟩
def vV:List RS:=[(.ops [(.i (.v 5) (.mv (.c (.bool false))))]),(.ops [(.i .l (.mv (.v 2))),(.i .l (.call (.c (.fn 87 [] [])) [(.l 0)])),(.i (.v 6) (.un .not (.l 0)))]),(.cond (.v 6) [(.ops [(.i (.v 5) (.mv (.c (.bool false))))]),.ret] []),(.ops [(.i .l (.mv (.v 0))),(.i .l (.mv (.v 0))),(.i .l (.nilc (.l 0))),(.i .l (.fad 12 (.l 0))),(.i .l (.load false 1 (.l 0))),(.i .l (.mv (.v 1))),(.i .l (.mv (.v 2))),(.i .l (.mv (.v 3))),(.i .l (.build [(.int .i64 0),(.int .i64 0),(.int .i64 0),(.int .i64 0)] [(0,1),(1,1),(2,1),(3,1)] [(0,(.l 2)),(1,(.l 1)),(2,(.c (.int .i64 2))),(3,(.l 0))])),(.i .l (.bsl false 98 [(.int .i64 0),(.int .i64 0),(.int .i64 0),(.int .i64 0)] 4 1 [(0,(.l 0))])),(.i .l (.app false 98 (.l 5) (.l 0))),(.i .l (.nilc (.l 10))),(.i .l (.fad 12 (.l 0))),(.i .n (.store 1 (.l 0) (.l 2)))]),(.ops [(.i .l (.mv (.v 0))),(.i .l (.mv (.v 2))),(.i .l (.mv (.v 4))),(.i .l (.nilc (.l 2))),(.i .l (.fad 0 (.l 0))),(.i .l (.ixa none (some (12,1)) (.l 0) (.l 3))),(.i .n (.store 1 (.l 0) (.l 3)))]),(.ops [(.i (.v 5) (.mv (.c (.bool true))))]),.ret]
theorem EC:FnR Try.prog po 137 5 7 [0,1,2,3,4,10,13] vV [(.v 5)] false:=⟨_,_,Try.func137,rfl,rfl,by kernel_rfl,by kernel_rfl,by kernel_rfl,by kernel_rfl,by kernel_rfl⟩
def xc:List RS:=[(.ops [(.i (.v 1) (.mv (.c .nils)))]),(.ops [(.i .l (.mv (.v 0))),(.i .l (.nilc (.l 0))),(.i .l (.fad 12 (.l 0))),(.i .l (.load false 1 (.l 0))),(.i .l (.call (.c (.fn 63 [] [])) [(.l 0)])),(.i (.v 1) (.mv (.l 0)))]),.ret]
theorem Ei:FnR Try.prog po 31 1 2 [0,2] xc [(.v 1)] true:=⟨_,_,Try.func31,rfl,rfl,by kernel_rfl,by kernel_rfl,by kernel_rfl,by kernel_rfl,by kernel_rfl⟩
def pN:List RS:=[(.ops [(.i (.v 1) (.mv (.c .nils)))]),(.ops [(.i .l (.mv (.v 0))),(.i (.v 2) (.bin .slice .eql (.l 0) (.c .nils)))]),(.cond (.v 2) [(.ops [(.i (.v 1) (.mv (.c .nils)))]),.ret] []),(.ops [(.i .l (.bsl false 98 [(.int .i64 0),(.int .i64 0),(.int .i64 0),(.int .i64 0)] 4 0 [])),(.i .l (.mv (.v 0))),(.i .l (.app false 98 (.l 1) (.l 0))),(.i (.v 1) (.mv (.l 0)))]),.ret]
theorem uV:FnR Try.prog po 63 1 3 [0,2,4] pN [(.v 1)] true:=⟨_,_,Try.func63,rfl,rfl,by kernel_rfl,by kernel_rfl,by kernel_rfl,by kernel_rfl,by kernel_rfl⟩
def HD:List RS:=[(.ops [(.i (.v 2) (.box 3 (.v 1)))])]
def xh:List RI:=[(.i .l (.mv (.v 0))),(.i .l (.mv (.v 0))),(.i .l (.load true 3 (.v 2))),(.i .l (.bsl true 29 [(.int .i64 0),(.int .i64 0),.nils] 3 1 [(0,(.l 0))])),(.i .l (.call (.c (.fn 81 [] [])) [(.l 3)])),(.ck [⟨none,true,3,(.v 2),(.l 2)⟩]),(.i .l (.call (.c (.fn 81 [] [])) [(.l 3)])),(.ck [⟨none,true,3,(.v 2),(.l 3)⟩]),(.i .l (.nilc (.l 0))),(.i .l (.fad 6 (.l 0))),(.i .l (.load false 1 (.l 0))),(.i .l (.app true 29 (.l 0) (.l 5))),(.i .l (.nilc (.l 5))),(.i .l (.fad 6 (.l 0))),(.i .n (.store 1 (.l 0) (.l 2)))]
def wP:List RI:=[(.i .l (.mv (.v 0))),(.i .l (.mv (.v 0))),(.i .l (.load true 3 (.v 2))),(.i .l (.call (.c (.fn 81 [] [])) [(.l 2)])),(.ck [⟨none,true,3,(.v 2),(.l 1)⟩]),(.i .l (.bsl true 29 [(.int .i64 0),(.int .i64 0),.nils] 3 1 [(0,(.l 1))])),(.i .l (.call (.c (.fn 81 [] [])) [(.l 3)])),(.ck [⟨none,true,3,(.v 2),(.l 3)⟩]),(.i .l (.nilc (.l 0))),(.i .l (.fad 6 (.l 0))),(.i .l (.load false 1 (.l 0))),(.i .l (.app true 29 (.l 0) (.l 4))),(.i .l (.nilc (.l 6))),(.i .l (.fad 6 (.l 0))),(.i .n (.store 1 (.l 0) (.l 2)))]
def xb:List RI:=[(.i .l (.mv (.v 0))),(.i .l (.mv (.v 0))),(.i .l (.load true 3 (.v 2))),(.i .l (.call (.c (.fn 81 [] [])) [(.l 2)])),(.ck [⟨none,true,3,(.v 2),(.l 1)⟩]),(.i .l (.call (.c (.fn 81 [] [])) [(.l 2)])),(.ck [⟨none,true,3,(.v 2),(.l 2)⟩]),(.i .l (.nilc (.l 0))),(.i .l (.fad 6 (.l 0))),(.i .l (.load false 1 (.l 0))),(.i .l (.bsl true 29 [(.int .i64 0),(.int .i64 0),.nils] 3 1 [(0,(.l 5))])),(.ck [⟨none,false,1,(.l 2),(.l 1)⟩]),(.i .l (.app true 29 (.l 1) (.l 0))),(.i .l (.nilc (.l 6))),(.i .l (.fad 6 (.l 0))),(.i .n (.store 1 (.l 0) (.l 2)))]
open Go Go.RowKit
section
variable {P:Program} {po:Pol} {f:FuncId} {n nv:Nat} {vm:List Nat} {h h':AH} {t V V':List AV} {all:Array Oper} {pl:List (Nat×List Nat)} {E:Nat→Nat→Prop}
theorem Ew (pok:POK P po) {is:List RI} {K:List Item} {x:AEx} (pp:ko all pl (fun _=>false) E) (hkp:sM (po.kp f) all=true) (hvm:vm.Nodup∧∀ j s,vm[j]? =some s→(j<nv↔s<po.nv f))
  (htr:gZ P (po.mu f) n vm all [] (ez true all pl)=some is) (hr:aq (aj P po) nv [.ops is,.halt K] V [] h=some (x,V',h')) (rv:RV n vm [] t V []):
  ∃ t',(∀ (m:Mm) (w:World) (a:Act) (b:Frame) (cs:List Frame) (L:List Nat),ii all E (mL all) L→WR P m h w→TR P m h t a.tmps→a.defers=b.defers→bW P (po.kp f) m h w b cs (lone (b.at a (.inRegion all L::K)) cs w) (x,t',h'))∧RV n vm [] t' V' []:=by
 obtain⟨t',e,rv'⟩:=(nN (n:=n) (f:=f) hvm.1 hvm.2 _ _ _ _ _ hr).2.1 true all (ez true all pl) is [.halt K] [] t [.halt K] rfl htr (.halt K [] []) rv
 refine⟨t',fun m w a b cs L hL hw ht hd=> ?_,rv'⟩
 obtain⟨e2,t2,h2,hp,he⟩:=jz pok f _ t h _ e
 refine pV pok pp hkp hp (fun e0=> ?_) (fun v e0=> ?_) hL hw ht hd
 ·subst e0
  exact fun m1 w1 a1 q1 q2 q3=>he K (.halt K []) b cs m1 w1 a1 q1 q2 q3
 ·subst e0
  exact he
theorem zF (pok:POK P po) (hedge:∀ j,j<all.size→∀ e∈(opI all j).after,Region.binds .any e=true→e.on<j) {id:Nat} {b:Frame} {a:Act} {K:List Item} {cs:List Frame} {w:World}:
  ∃ L w',ii all (fun _ _=>False) (mL all) L∧Steps P (lone (b.at a (.code (.region id all true)::K)) cs w) (lone (b.at a (.inRegion all L::K)) cs w')∧(∀ (m:Mm) (h:AH),WR P m h w→WR P m h w')∧∀ base,Below base w w':=by
 refine⟨_,_,?_,.one step_region_draw,fun m h hw=>hw.drew,fun base=>(Below.refl _ _).drew⟩
 simp only[Region.schedule,pok.mixed,Bool.true_or,if_true,Region.linearise]
 exact Bh hedge _ _ _ (by simp) (by simp[List.countP_replicate])
end
open Go Go.RowKit
section
variable {P:Program} {po:Pol} {f:FuncId} {n nv:Nat} {vm:List Nat} {h h' h2 h3:AH} {V V':List AV} {args:List AV} {all:Array Oper}
theorem nD.draw (pok:POK P po) {id:Nat} {c:Code} (hc:c= .region id all true) (p:nD P po f n vm args h (.halt [.code c]) V h2)
  (hedge:((List.range all.size).all fun j=>(all.getD j default).after.all fun e=> !Region.binds .any e || decide (e.on<j))=true) (hvm:vm.Nodup∧∀ j s,vm[j]? =some s→(j<nv↔s<po.nv f)) (hkp:sM (po.kp f) all=true)
  (h1:∀ L,ii all (fun _ _=>False) (mL all) L→∃ (E:Nat→Nat→Prop) (pl:List (Nat×List Nat)) (is:List RI),ii all E (mL all) L∧ko all pl (fun _=>false) E∧gZ P (po.mu f) n vm all [] (ez true all pl)=some is∧aq (aj P po) nv [.ops is,.halt []] V [] h2=some (.halt [],V',h3)):
  nD P po f n vm args h .ret V' h3:=by
 intro m w vs hw hvs cs
 obtain⟨bf,t2,b1,b2,b3,rv,m1,w1,x1,x2,x3,a1,x4,x5,x6⟩:=p m w vs hw hvs cs
 subst hc
 obtain⟨L,w2,q1,q2,q3,q4⟩:=zF (P:=P) (all:=all) (id:=id) (b:=bf) (a:=a1) (K:=[]) (cs:=cs) (w:=w1) pok (fun j hj e he hb=>by
  rw[List.all_eq_true]at hedge
  have:=hedge j (List.mem_range.2 hj)
  rw[Array.all_eq_true']at this
  have:=this e he
  simpa[hb]using this)
 obtain⟨E,pl,is,e1,e2,e3,e4⟩:=h1 L q1
 obtain⟨t',hp,rv'⟩:=Ew (K:=[]) pok e2 hkp hvm e3 e4 rv
 obtain⟨m3,w3,y1,y2,y3,a3,y4,y5,y6⟩:=hp m1 w2 a1 bf cs L e1 (q3 _ _ x2) x4 x5
 refine⟨bf,t',b1,b2,b3,rv',bW.steps x6 (bW.after x1 x3 (bW.steps q2 (bW.after (Ext.refl _ _) (q4 _) ?_)))⟩
 exact⟨m3,w3,y1,y2,y3,a3,[],y4,y5,y6.trans (.one step_end)⟩
theorem tP {E:Nat→Nat→Prop} {x y z:Nat} (h1:E x y) (hz:((opI all z).after.toList.any fun e=>Region.binds .any e && e.on==y)=true):∀ {li:Array Bool} {L:List Nat},ii all E li L→li.size=all.size→(li.getD y false=true→li.getD x false=true)→ii all (Bg E x z) li L:=by
 rw[List.any_eq_true]at hz
 obtain⟨e,e1,e2⟩:=hz
 simp only[Bool.and_eq_true,beq_iff_eq]at e2
 intro li L ho
 induction ho with
 | nil li h=>exact fun _ _=> .nil _ h
 | cons li i L g1 g2 g3 g4 _ ih=>
   intro hs hi
   have hil:i<li.size:=by omega
   refine .cons _ _ _ g1 g2 g3 (fun j hj=>hj.elim (g4 j) fun hj=> ?_) (ih (by simpa using hs) fun hy=> ?_)
   ·rw[hj.1]
    refine hi ?_
    have:=g3 e (by rw[hj.2];simpa using e1) e2.1
    rwa [e2.2]at this
   ·rw[bS hil]at hy ⊢
    split
    ·rfl
    ·split at hy
     ·rename_i h5
      exact g4 x (by rw[←h5];exact h1)
     ·exact hi hy
theorem Fm {E:Nat→Nat→Prop} {x y z:Nat} (h1:E x y) (h2:E z x) (hz:∃ e∈(opI all z).after,Region.binds .any e=true∧e.on=y) (hx:x<all.size):∀ {li:Array Bool} {L:List Nat},ii all E li L→li.size=all.size→li.getD x false=false→li.getD y false=false→li.getD z false=false→False:=by
 intro li L ho
 induction ho with
 | nil li h=>
   intro hs a _ _
   rw[h x hx]at a
   cases a
 | cons li i L g1 g2 g3 g4 _ ih=>
   intro hs a b c
   have n1:x≠i:=fun e=>by
    have:=g4 z (by rw[←e];exact h2)
    rw[c]at this
    cases this
   have n2:y≠i:=fun e=>by
    have:=g4 x (by rw[←e];exact h1)
    rw[a]at this
    cases this
   have n3:z≠i:=fun e=>by
    obtain⟨e',e1,e2,e3⟩:=hz
    have:=g3 e' (by rw[←e];exact e1) e2
    rw[e3,b]at this
    cases this
   have hi:i<li.size:=by omega
   exact ih (by simpa using hs) (by rw[bS hi,if_neg n1];exact a) (by rw[bS hi,if_neg n2];exact b) (by rw[bS hi,if_neg n3];exact c)
end
abbrev fPu:FuncId:=107
abbrev HP:FuncId:=81
noncomputable def cPu:Code:=Try.f107.body.getD .skip
theorem MF:(Try.prog).funcs[fPu]? =some Try.f107:=Try.func107
theorem KI:Try.f107.body=some cPu:=rfl
theorem PV:Try.f107.ntmps=16:=rfl
theorem Ob:cPu= .seq (cL cPu) (cR cPu):=rfl
theorem N9:jB Try.prog [0,1,3] Try.f107.results.toList=some []:=by kernel_rfl
abbrev vPu:List Nat:=[0,1,3]
theorem Ni:rg 2 16 (po.nv fPu) 3 vPu=true:=by kernel_rfl
theorem Np:bi Try.prog (po.mu fPu) (po.plan fPu) 16 vPu (cL cPu) []=some HD:=by kernel_rfl
theorem K6:cU (po.plan fPu) (po.kp fPu) (cL cPu)=true:=by kernel_rfl
noncomputable abbrev puO:Array Oper:=fj (cR cPu)
theorem Nj:cR cPu= .region 1 puO true:=rfl
theorem JP:((List.range puO.size).all fun j=>(puO.getD j default).after.all fun e=> !Region.binds .any e || decide (e.on<j))=true:=by kernel_rfl
theorem Px:sM (po.kp fPu) puO=true:=by kernel_rfl
def Oy:List (Nat×List Nat):=[(0,[]),(2,[]),(7,[]),(8,[]),(1,[7]),(3,[7]),(4,[]),(5,[]),(6,[]),(9,[]),(10,[]),(11,[]),(12,[])]
def Oz:List (Nat×List Nat):=[(0,[]),(2,[]),(7,[]),(1,[7]),(8,[]),(3,[7]),(4,[]),(5,[]),(6,[]),(9,[]),(10,[]),(11,[]),(12,[])]
def NM:List (Nat×List Nat):=[(0,[]),(2,[]),(7,[]),(1,[7]),(3,[7]),(4,[]),(5,[]),(6,[]),(8,[6]),(9,[]),(10,[]),(11,[]),(12,[])]
theorem Po:kO [(8,1),(8,3),(8,4),(8,5),(8,6)] puO Oy=true:=by kernel_rfl
theorem PG:kO [(1,8),(8,3),(8,4),(8,5),(8,6)] puO Oz=true:=by kernel_rfl
theorem Pv:kO [(1,8),(3,8)] puO NM=true:=by kernel_rfl
theorem OK:gZ Try.prog (po.mu fPu) 16 vPu puO [] (ez true puO Oy)=some xh:=by kernel_rfl
theorem OV:gZ Try.prog (po.mu fPu) 16 vPu puO [] (ez true puO Oz)=some wP:=by kernel_rfl
theorem OL:gZ Try.prog (po.mu fPu) 16 vPu puO [] (ez true puO NM)=some xb:=by kernel_rfl
theorem Em:puO.size=13:=by kernel_rfl
theorem PI:((opI puO 4).after.toList.any fun e=>Region.binds .any e && e.on==3)=true:=by kernel_rfl
theorem Pd:((opI puO 5).after.toList.any fun e=>Region.binds .any e && e.on==4)=true:=by kernel_rfl
theorem Pa:((opI puO 6).after.toList.any fun e=>Region.binds .any e && e.on==5)=true:=by kernel_rfl
theorem CQ {E:Nat→Nat→Prop} (h1:E 8 3) {L:List Nat} (ho:ii puO E (mL puO) L):ii puO (Bg (Bg (Bg E 8 4) 8 5) 8 6) (mL puO) L:=by
 have hsz:(mL puO).size=puO.size:=by simp
 have n:∀ j,(mL puO).getD j false=true→(mL puO).getD 8 false=true:=fun j hj=>by rw[ee]at hj;cases hj
 exact tP (.inr ⟨rfl,rfl⟩) Pa (tP (.inr ⟨rfl,rfl⟩) Pd (tP h1 PI ho hsz (n _)) hsz (n _)) hsz (n _)
theorem PA:((opI puO 3).after.toList.any fun e=>Region.binds .any e && e.on==1)=true:=by kernel_rfl
theorem O1 (x y:AV):RV 16 vPu [] ([x,y]++replicate (16 - [x,y].length) .junk) ([x,y]++replicate (vPu.length - [x,y].length) .junk) []:=by
 refine⟨by simp,rfl,rfl,fun j s hj=> ?_,fun j s hj=>by simp at hj⟩
 match j,hj with
 | 0,hj | 1,hj | 2,hj=>obtain rfl:=Option.some.inj hj;exact⟨by decide,rfl⟩
 | j+3,hj=>simp at hj
theorem q8 {h:AH} {mb fb k:Nat} {bx lf:AV} (hm:h.cell mb=some [[bx,.msl fb 0 (k+1) tFr,lf]]) (hk:k≤1000):aj Try.prog po HP [.ptr mb 0 0] h=some (.inl (.ptr fb k 0),h):=by
 have w:IntKind.wrap .i64 (((k+1:Nat):Int) - 1)=(k:Int):=Ci (by omega) (by omega) (by omega)
 have ix:∀ q:IntKind,bT (some tFr) none (.msl fb 0 (k+1) tFr) (.int q (k:Int))=some (.ptr fb (0+k) 0):=fun q=>rA rfl (by omega)
 refine ah JX rfl ?_;unfold CV
 simp only[sim,ag,reduceAdd,reduceSub,replicate,reduceCtorEq,reduceLeDiff,reduceLT,aa,hm,w,ix,Nat.zero_add]
theorem LO {h h3:AH} {mb fb k:Nat} {bx lf s s':AV} {r:List AV} {rows:List (List AV)} {row:List AV} (hk:k≤1000) (hr:r.length=3∧r.all AV.one=true) (hmn:mb<h.n) (hfn:fb<h.n)
  (hm:h.cell mb=some [[bx,.msl fb 0 (k+1) tFr,lf]]) (hf:h.cell fb=some rows) (hrow:rows[k]? =some row) (hs:row[6]? =some s) (hlr:row.length=10)
  (ha:aF true tV s (.msl (h.n+1) 0 1 tV) ((h.push [r]).push [r])=some (s',h3)) (hf3:h3.cell fb=some rows) (h1:s'.one=true) (hc1:s'.cells=[s']):
  aj Try.prog po fPu [.ptr mb 0 0,.agg r] h=some (.inl (.tup []),h3.set fb (some (rows.set k (row.set 6 s')))):=by
 have hkl:k<rows.length:=(List.getElem?_eq_some_iff.1 hrow).1
 have hst:stA row 6 [s']=row.set 6 s':=by
  match row,hlr with
  | [a,b,c,d,e,f,g,i,j,l],_=>rfl
 have hv:Iw [.ptr mb 0 0,.agg r] h=some (h3.set fb (some (rows.set k (row.set 6 s')))):=by
  simp only[Iw,hm,Option.bind_some,hf,Nat.add_sub_cancel,hrow,hs,ha,Option.map_some]
 have hac:AC Try.prog fPu [.ptr mb 0 0,.agg r] h (.inl (.tup []),h3.set fb (some (rows.set k (row.set 6 s')))):=by
  have p0:=nD.start (po:=po) (h:=h) MF KI PV (O1 (.ptr mb 0 0) (.agg r))
  have p1:=p0.next (nv:=3) (x:= .halt [.code (cR cPu)]) (V':=[.ptr mb 0 0,.agg r,.ptr h.n 0 0]) (h3:=h.push [r]) pok Ob (bQ Ni) Np K6 (by
   unfold HD
   have hb:= @C3 (aj (Try.prog) po) 3
   simp only[sim,ag,reduceAdd,reduceSub,replicate,reduceCtorEq,reduceLeDiff,reduceLT,aa,hr.1,hr.2])
  have hmn1:(h.push [r]).cell mb=some [[bx,.msl fb 0 (k+1) tFr,lf]]:=(iT (by omega)).trans hm
  have hmn2:((h.push [r]).push [r]).cell mb=some [[bx,.msl fb 0 (k+1) tFr,lf]]:=(iT (by rw[aM];omega)).trans hmn1
  have hf1:(h.push [r]).cell fb=some rows:=(iT (by omega)).trans hf
  have hf2:((h.push [r]).push [r]).cell fb=some rows:=(iT (by rw[aM];omega)).trans hf1
  have t1:=q8 hmn1 hk
  have t2:=q8 hmn2 hk
  have fs1:aI 6 (.ptr fb k 0)=some (.ptr fb k 6):=rfl
  have ld1:∀ {x:AH} {n:Nat},x.cell fb=some rows→aE false n x (.ptr fb k 6)=some s:=fun{x n} hx=>by
   rw[bD,hx,Option.bind_some,hrow,Option.bind_some,fL]
   exact hs
  have st:aJ 1 h3 (.ptr fb k 6) s'=some (h3.set fb (some (rows.set k (row.set 6 s')))):=by
   rw[bp (es:=rows) (e:=row) hf3 hrow (by rw[hc1];simpa using h1) (by rw[hc1];rfl) (by omega),hc1,hst]
  have run:∀ is,is=xh∨is=wP∨is=xb→aq (aj Try.prog po) 3 [.ops is,.halt []] [.ptr mb 0 0,.agg r,.ptr h.n 0 0] [] (h.push [r])=some (.halt [],[.ptr mb 0 0,.agg r,.ptr h.n 0 0],h3.set fb (some (rows.set k (row.set 6 s')))):=by
   have q0:(h.push [r]).cell h.n=some [r]:=aC
   have q1:((h.push [r]).push [r]).cell h.n=some [r]:=(iT (by rw[aM];omega)).trans aC
   intro is his
   rcases his with rfl | rfl | rfl
   ·unfold xh
    simp only[sim,ag,reduceAdd,reduceSub,replicate,reduceCtorEq,reduceLeDiff,reduceLT,aa,az,HP,t1,t2,hr.1,hr.2,hf1,hf2,hrow,hs,ha,h1,hc1,q0,q1,ld1 hf2,st]
   ·unfold wP
    simp only[sim,ag,reduceAdd,reduceSub,replicate,reduceCtorEq,reduceLeDiff,reduceLT,aa,az,t1,t2,hr.1,hr.2,hf1,hf2,hrow,hs,ha,h1,hc1,q0,q1,ld1 hf2,st]
   ·unfold xb
    simp only[sim,ag,reduceAdd,reduceSub,replicate,reduceCtorEq,reduceLeDiff,reduceLT,aa,az,t1,t2,hr.1,hr.2,hf1,hf2,hrow,hs,ha,h1,hc1,q0,q1,ld1 hf1,ld1 hf2,st]
  refine(nD.draw (nv:=3) (V':=[.ptr mb 0 0,.agg r,.ptr h.n 0 0]) pok Nj p1 JP (bQ Ni) Px fun L hL=> ?_).ret MF N9 rfl
  have e31:∃ e∈(opI puO 3).after,Region.binds .any e=true∧e.on=1:=by
   have:=PA
   rw[List.any_eq_true]at this
   obtain⟨e,e1,e2⟩:=this
   simp only[Bool.and_eq_true,beq_iff_eq]at e2
   exact⟨e,by simpa using e1,e2.1,e2.2⟩
  have hsz:(mL puO).size=puO.size:=by simp
  rcases mz (x:=8) (y:=1) (by decide) (by rw[Em];decide) hL hsz (ee _) (ee _)with o1 | o1
  ·rcases mz (x:=8) (y:=3) (by decide) (by rw[Em];decide) o1 hsz (ee _) (ee _)with o2 | o2
   ·exact⟨_,Oy,xh,(CQ (.inr ⟨rfl,rfl⟩) o2).mono (fun i j hj=>by simp only[List.mem_cons,Prod.mk.injEq,List.not_mem_nil,or_false]at hj;rcases hj with hj | hj | hj | hj | hj;exact .inl (.inl (.inl (.inl (.inr hj))));exact .inl (.inl (.inl (.inr hj)));exact .inl (.inl (.inr hj));exact .inl (.inr hj);exact .inr hj),i4 Po,OK,run _ (.inl rfl)⟩
   ·exact(Fm (x:=8) (y:=1) (z:=3) (.inl (.inr ⟨rfl,rfl⟩)) (.inr ⟨rfl,rfl⟩) e31 (by rw[Em];decide) o2 hsz (ee _) (ee _) (ee _)).elim
  ·rcases mz (x:=8) (y:=3) (by decide) (by rw[Em];decide) o1 hsz (ee _) (ee _)with o2 | o2
   ·exact⟨_,Oz,wP,(CQ (.inr ⟨rfl,rfl⟩) o2).mono (fun i j hj=>by simp only[List.mem_cons,Prod.mk.injEq,List.not_mem_nil,or_false]at hj;rcases hj with hj | hj | hj | hj | hj;exact .inl (.inl (.inl (.inl (.inr hj))));exact .inl (.inl (.inl (.inr hj)));exact .inl (.inl (.inr hj));exact .inl (.inr hj);exact .inr hj),i4 PG,OV,run _ (.inr (.inl rfl))⟩
   ·exact⟨_,NM,xb,o2.mono (fun i j hj=>by simp only[List.mem_cons,Prod.mk.injEq,List.mem_singleton,List.not_mem_nil,or_false]at hj;rcases hj with hj | hj;exact .inl (.inr hj);exact .inr hj),i4 Pv,OL,run _ (.inr (.inr rfl))⟩
 have hx:po.ext fPu=some CJ:=by
  show qI fPu=_
  unfold qI
  rw[if_neg (by decide),if_pos rfl]
 unfold aj
 rw[hx]
 simp only[CJ,hv]
 rw[if_pos hac]
def jy:List RS:=[(.ops [(.i .l (.mv (.v 4))),(.i .l (.fad 2 (.v 2))),(.i .l (.load false 1 (.l 0))),(.i .l (.len false (some 29) (.l 0))),(.i .l (.bin (.int .i64) .lss (.l 3) (.l 0))),(.i .l (.mv (.l 0))),(.g (.l 0) true .l (.mv (.v 1))),(.g (.l 1) true .l (.bin (.int .i64) .geq (.l 0) (.c (.int .i64 0)))),(.i (.v 5) (.pick (.l 2) (.l 0) (.c (.bool false))))]),(.cond (.v 5) [] [(.exit 0)]),(.block 1 [(.ops [(.i .l (.fad 2 (.v 2))),(.i .l (.load false 1 (.l 0))),(.i .l (.mv (.v 4))),(.i .l (.ixa (some 29) none (.l 1) (.l 0))),(.i .l (.load true 3 (.l 0))),(.i .l (.mv (.v 1))),(.i .l (.call (.c (.fn 49 [] [])) [(.l 1),(.l 0)])),(.i (.v 1) (.mv (.l 0)))])]),(.ops [(.i .l (.mv (.v 4))),(.i .l (.bin (.int .i64) .add (.l 0) (.c (.int .i64 1)))),(.i (.v 4) (.mv (.l 0)))])]
def Ae:List RS:=[(.ops [(.i (.v 2) (.box 3 (.v 0))),(.i (.v 3) (.mv (.c (.int .i64 0))))]),(.ops [(.i .l (.mv (.v 1))),(.i .l (.bin (.int .i64) .sub (.l 0) (.c (.int .i64 1)))),(.i (.v 1) (.mv (.l 0)))]),(.ops [(.i (.v 4) (.mv (.c (.int .i64 0))))]),(.block 0 [(.loop jy)]),(.ops [(.i .l (.mv (.v 1))),(.i (.v 3) (.mv (.l 0)))]),.ret]
theorem Gd:FnR Try.prog po 49 2 6 [0,1,2,4,5,16] Ae [(.v 3)] true:=⟨_,_,Try.func49,rfl,rfl,by kernel_rfl,by kernel_rfl,by kernel_rfl,by kernel_rfl,by kernel_rfl⟩
def pX:List RS:=[(.ops [(.i (.v 1) (.box 3 (.v 0))),(.i (.v 2) (.mv (.c (.int .i64 0))))]),(.ops [(.i .l (.load true 3 (.v 1))),(.i .l (.call (.c (.fn 49 [] [])) [(.l 0),(.c (.int .i64 40))])),(.i (.v 3) (.bin (.int .i64) .lss (.l 0) (.c (.int .i64 0))))]),(.cond (.v 3) [(.ops [(.i (.v 2) (.mv (.c (.int .i64 3))))]),.ret] []),(.ops [(.i .l (.load true 3 (.v 1))),(.i .l (.call (.c (.fn 50 [] [])) [(.l 0)])),(.i (.v 2) (.mv (.l 0)))]),.ret]
theorem uX:FnR Try.prog po 18 1 4 [0,1,2,5] pX [(.v 2)] true:=⟨_,_,Try.func18,rfl,rfl,by kernel_rfl,by kernel_rfl,by kernel_rfl,by kernel_rfl,by kernel_rfl⟩
def gu:List RS:=[(.ops [(.i (.v 12) (.bin (.int .i64) .lss (.v 11) (.v 10)))]),(.cond (.v 12) [] [(.exit 1)]),(.block 2 [(.ops [(.i .l (.ixa (some 29) none (.v 9) (.v 11))),(.i .l (.load true 3 (.l 0))),(.i (.v 4) (.alloc [(.int .i64 0),(.int .i64 0),.nils])),(.i .n (.store 3 (.v 4) (.l 0)))]),(.ops [(.i .l (.load true 3 (.v 4))),(.i .l (.call (.c (.fn 50 [] [])) [(.l 0)])),(.i (.v 5) (.mv (.l 0)))]),(.ops [(.i .l (.mv (.v 5))),(.i (.v 13) (.bin (.int .i64) .neq (.l 0) (.c (.int .i64 0))))]),(.cond (.v 13) [(.ops [(.i .l (.mv (.v 5))),(.i (.v 2) (.mv (.l 0)))]),.ret] [])]),(.ops [(.i .l (.bin (.int .i64) .add (.v 11) (.c (.int .i64 1)))),(.i (.v 11) (.mv (.l 0)))])]
def vC:List RS:=[(.ops [(.i (.v 1) (.box 3 (.v 0))),(.i (.v 2) (.mv (.c (.int .i64 0))))]),(.ops [(.i .l (.fad 0 (.v 1))),(.i .l (.load false 1 (.l 0))),(.i .l (.bin (.int .i64) .lss (.l 0) (.c (.int .i64 0)))),(.i .l (.mv (.l 0))),(.g (.l 0) false .l (.fad 0 (.v 1))),(.g (.l 1) false .l (.load false 1 (.l 0))),(.g (.l 2) false .l (.bin (.int .i64) .gtr (.l 0) (.c (.int .i64 5)))),(.i (.v 6) (.pick (.l 3) (.c (.bool true)) (.l 0)))]),(.cond (.v 6) [(.ops [(.i (.v 2) (.mv (.c (.int .i64 2))))]),.ret] []),(.ops [(.i .l (.bsl false 3 [(.int .i64 0)] 1 6 [(0,(.c (.int .i64 0))),(1,(.c (.int .i64 0))),(2,(.c (.int .i64 2))),(3,(.c (.int .i64 1))),(4,(.c (.int .i64 0))),(5,(.c (.int .i64 0)))])),(.i .l (.fad 0 (.v 1))),(.i .l (.load false 1 (.l 0))),(.i .l (.ixa (some 3) none (.l 2) (.l 0))),(.i .l (.load false 1 (.l 0))),(.i (.v 3) (.mv (.l 0)))]),(.block 0 [(.ops [(.i .l (.fad 2 (.v 1))),(.i .l (.load false 1 (.l 0))),(.i .l (.len false (some 29) (.l 0))),(.i .l (.mv (.v 3))),(.i .l (.bin (.int .i64) .neq (.l 1) (.l 0))),(.i .l (.mv (.l 0))),(.g (.l 0) false .l (.mv (.v 3))),(.g (.l 1) false .l (.bin (.int .i64) .eql (.l 0) (.c (.int .i64 2)))),(.g (.l 2) false .l (.mv (.l 0))),(.g (.l 0) true .l (.fad 1 (.v 1))),(.g (.l 1) true .l (.load false 1 (.l 0))),(.g (.l 2) true .l (.bin (.int .i64) .neq (.l 0) (.c (.int .i64 0)))),(.g (.l 6) false .l (.pick (.l 3) (.l 0) (.c (.bool false)))),(.i .l (.pick (.l 7) (.c (.bool true)) (.l 0))),(.i .l (.mv (.l 0))),(.g (.l 0) false .l (.fad 0 (.v 1))),(.g (.l 1) false .l (.load false 1 (.l 0))),(.g (.l 2) false .l (.bin (.int .i64) .eql (.l 0) (.c (.int .i64 0)))),(.g (.l 3) false .l (.mv (.l 0))),(.g (.l 0) true .l (.fad 1 (.v 1))),(.g (.l 1) true .l (.load false 1 (.l 0))),(.g (.l 2) true .l (.bin (.int .i64) .neq (.l 0) (.c (.int .i64 0)))),(.g (.l 7) false .l (.pick (.l 3) (.l 0) (.c (.bool false)))),(.i .l (.pick (.l 8) (.c (.bool true)) (.l 0))),(.i (.v 7) (.mv (.l 0)))]),(.cond (.v 7) [(.ops [(.i (.v 2) (.mv (.c (.int .i64 5))))]),.ret] [(.ops [(.i .l (.fad 0 (.v 1))),(.i .l (.load false 1 (.l 0))),(.i .l (.bin (.int .i64) .geq (.l 0) (.c (.int .i64 3)))),(.i .l (.mv (.l 0))),(.g (.l 0) true .l (.fad 1 (.v 1))),(.g (.l 1) true .l (.load false 1 (.l 0))),(.g (.l 2) true .l (.bin (.int .i64) .lss (.l 0) (.c (.int .i64 0)))),(.i .l (.pick (.l 3) (.l 0) (.c (.bool false)))),(.i (.v 8) (.mv (.l 0)))]),(.cond (.v 8) [(.ops [(.i (.v 2) (.mv (.c (.int .i64 1))))]),.ret] [])])]),(.ops [(.i .l (.fad 2 (.v 1))),(.i (.v 9) (.load false 1 (.l 0))),(.i (.v 10) (.len false (some 29) (.v 9))),(.i (.v 11) (.mv (.c (.int .i64 0))))]),(.block 1 [(.loop gu)]),(.ops [(.i (.v 2) (.mv (.c (.int .i64 0))))]),.ret]
theorem Fe:FnR Try.prog po 50 1 14 [0,1,2,3,5,6,14,20,45,55,56,57,58,64] vC [(.v 2)] true:=⟨_,_,Try.func50,rfl,rfl,by kernel_rfl,by kernel_rfl,by kernel_rfl,by kernel_rfl,by kernel_rfl⟩
def kE:List RS:=[(.ops [(.i (.v 8) (.bin (.int .i64) .lss (.v 7) (.v 6)))]),(.cond (.v 8) [] [(.exit 0)]),(.block 1 [(.ops [(.i .l (.ixa (some 29) none (.v 5) (.v 7))),(.i .l (.load true 3 (.l 0))),(.i (.v 4) (.alloc [(.int .i64 0),(.int .i64 0),.nils])),(.i .n (.store 3 (.v 4) (.l 0)))]),(.ops [(.i .l (.fad 2 (.v 3))),(.i .l (.load false 1 (.l 0))),(.i .l (.load true 3 (.v 4))),(.i .l (.call (.c (.fn 46 [] [])) [(.l 0)])),(.ck [⟨none,false,1,(.l 3),(.l 2)⟩]),(.i .l (.bsl false 29 [(.int .i64 0),(.int .i64 0),.nils] 3 1 [(0,(.l 0))])),(.ck [⟨none,false,1,(.l 4),(.l 3)⟩]),(.i .l (.app false 29 (.l 3) (.l 0))),(.i .l (.fad 2 (.v 3))),(.i .n (.store 1 (.l 0) (.l 1)))])]),(.ops [(.i .l (.bin (.int .i64) .add (.v 7) (.c (.int .i64 1)))),(.i (.v 7) (.mv (.l 0)))])]
def CM:List RS:=[(.ops [(.i (.v 1) (.box 3 (.v 0))),(.i (.v 2) (.alloc [(.int .i64 0),(.int .i64 0),.nils]))]),(.ops [(.i .l (.fad 0 (.v 1))),(.i .l (.load false 1 (.l 0))),(.i .l (.fad 1 (.v 1))),(.i .l (.load false 1 (.l 0))),(.i .l (.build [(.int .i64 0),(.int .i64 0),.nils] [(0,1),(1,1),(2,1)] [(0,(.l 2)),(1,(.l 0))])),(.i (.v 3) (.alloc [(.int .i64 0),(.int .i64 0),.nils])),(.i .n (.store 3 (.v 3) (.l 0)))]),(.ops [(.i .l (.fad 2 (.v 1))),(.i (.v 5) (.load false 1 (.l 0))),(.i (.v 6) (.len false (some 29) (.v 5))),(.i (.v 7) (.mv (.c (.int .i64 0))))]),(.block 0 [(.loop kE)]),(.ops [(.i .l (.load true 3 (.v 3))),(.i .n (.store 3 (.v 2) (.l 0)))]),.ret]
theorem Ki:FnR Try.prog po 46 1 9 [0,1,2,3,5,12,13,14,15] CM [(.cell true 3 2)] true:=⟨_,_,Try.func46,rfl,rfl,by kernel_rfl,by kernel_rfl,by kernel_rfl,by kernel_rfl,by kernel_rfl⟩
def jE:List RS:=[(.ops [(.i (.v 9) (.bin (.int .i64) .lss (.v 8) (.v 7)))]),(.cond (.v 9) [] [(.exit 0)]),(.block 1 [(.ops [(.i .l (.ixa (some 29) none (.v 6) (.v 8))),(.i .l (.load true 3 (.l 0))),(.i (.v 4) (.alloc [(.int .i64 0),(.int .i64 0),.nils])),(.i .n (.store 3 (.v 4) (.l 0)))]),(.ops [(.i .l (.mv (.v 3))),(.i .l (.load true 3 (.v 4))),(.i .l (.call (.c (.fn 131 [] [])) [(.l 0)])),(.i .l (.app false 3 (.l 2) (.l 0))),(.i (.v 3) (.mv (.l 0)))])]),(.ops [(.i .l (.bin (.int .i64) .add (.v 8) (.c (.int .i64 1)))),(.i (.v 8) (.mv (.l 0)))])]
def yj:List RS:=[(.ops [(.i (.v 1) (.box 3 (.v 0))),(.i (.v 2) (.mv (.c .nils)))]),(.ops [(.i (.v 3) (.mv (.c .nils)))]),(.ops [(.i .l (.fad 0 (.v 1))),(.i .l (.load false 1 (.l 0))),(.i (.v 5) (.bin (.int .i64) .eql (.l 0) (.c (.int .i64 4))))]),(.cond (.v 5) [(.ops [(.i .l (.mv (.v 3))),(.i .l (.fad 1 (.v 1))),(.i .l (.load false 1 (.l 0))),(.i .l (.bsl false 3 [(.int .i64 0)] 1 1 [(0,(.l 0))])),(.i .l (.app false 3 (.l 3) (.l 0))),(.i (.v 3) (.mv (.l 0)))])] []),(.ops [(.i .l (.fad 2 (.v 1))),(.i (.v 6) (.load false 1 (.l 0))),(.i (.v 7) (.len false (some 29) (.v 6))),(.i (.v 8) (.mv (.c (.int .i64 0))))]),(.block 0 [(.loop jE)]),(.ops [(.i .l (.mv (.v 3))),(.i (.v 2) (.mv (.l 0)))]),.ret]
theorem Jk:FnR Try.prog po 131 1 10 [0,1,2,3,5,8,15,16,17,18] yj [(.v 2)] true:=⟨_,_,Try.func131,rfl,rfl,by kernel_rfl,by kernel_rfl,by kernel_rfl,by kernel_rfl,by kernel_rfl⟩
def uZ:List RS:=[(.ops [(.i (.v 1) (.box 3 (.v 0))),(.i (.v 2) (.mv (.c (.bool false))))]),(.ops [(.i .l (.fad 0 (.v 1))),(.i .l (.load false 1 (.l 0))),(.i .l (.bin (.int .i64) .eql (.l 0) (.c (.int .i64 5)))),(.i .l (.mv (.l 0))),(.g (.l 0) false .l (.fad 2 (.v 1))),(.g (.l 1) false .l (.load false 1 (.l 0))),(.g (.l 2) false .l (.call (.c (.fn 139 [] [])) [(.l 0),(.c (.fn 130 [] []))])),(.i .l (.pick (.l 3) (.c (.bool true)) (.l 0))),(.i (.v 2) (.mv (.l 0)))]),.ret]
theorem E5:FnR Try.prog po 130 1 3 [0,1,2] uZ [(.v 2)] true:=⟨_,_,Try.func130,rfl,rfl,by kernel_rfl,by kernel_rfl,by kernel_rfl,by kernel_rfl,by kernel_rfl⟩
def nK:List RS:=[(.ops [(.i (.v 2) (.mv (.c (.bool false))))]),(.ops [(.i .l (.mv (.v 0))),(.i .l (.mv (.v 1))),(.i .l (.call (.c (.fn 143 [] [])) [(.l 1),(.l 0)])),(.i .l (.bin (.int .i64) .geq (.l 0) (.c (.int .i64 0)))),(.i (.v 2) (.mv (.l 0)))]),.ret]
theorem yb:FnR Try.prog po 139 2 3 [0,1,4] nK [(.v 2)] true:=⟨_,_,Try.func139,rfl,rfl,by kernel_rfl,by kernel_rfl,by kernel_rfl,by kernel_rfl,by kernel_rfl⟩
def iN:List RS:=[(.ops [(.i (.v 6) (.bin (.int .i64) .lss (.v 5) (.v 4)))]),(.cond (.v 6) [] [(.exit 0)]),(.block 1 [(.ops [(.i .l (.mv (.v 5))),(.i (.v 3) (.mv (.l 0)))]),(.ops [(.i .l (.mv (.v 1))),(.i .l (.mv (.v 0))),(.i .l (.mv (.v 3))),(.i .l (.ixa (some 29) none (.l 1) (.l 0))),(.i .l (.load true 3 (.l 0))),(.i (.v 7) (.call (.l 4) [(.l 0)]))]),(.cond (.v 7) [(.ops [(.i .l (.mv (.v 3))),(.i (.v 2) (.mv (.l 0)))]),.ret] [])]),(.ops [(.i .l (.bin (.int .i64) .add (.v 5) (.c (.int .i64 1)))),(.i (.v 5) (.mv (.l 0)))])]
def vP:List RS:=[(.ops [(.i (.v 2) (.mv (.c (.int .i64 0))))]),(.ops [(.i .l (.mv (.v 0))),(.i (.v 4) (.len false (some 29) (.l 0))),(.i (.v 5) (.mv (.c (.int .i64 0))))]),(.block 0 [(.loop iN)]),(.ops [(.i (.v 2) (.mv (.c (.int .i64 (-1)))))]),.ret]
theorem ET:FnR Try.prog po 143 2 8 [0,1,4,5,7,8,9,16] vP [(.v 2)] true:=⟨_,_,Try.func143,rfl,rfl,by kernel_rfl,by kernel_rfl,by kernel_rfl,by kernel_rfl,by kernel_rfl⟩
def rP:List RS:=[(.ops [(.i (.v 2) (.box 3 (.v 0))),(.i (.v 3) (.box 3 (.v 1))),(.i (.v 4) (.mv (.c (.bool false))))]),(.ops [(.i .l (.fad 0 (.v 2))),(.i .l (.load false 1 (.l 0))),(.i .l (.fad 0 (.v 3))),(.i .l (.load false 1 (.l 0))),(.i .l (.bin (.int .i64) .eql (.l 2) (.l 0))),(.i .l (.mv (.l 0))),(.g (.l 0) true .l (.fad 1 (.v 2))),(.g (.l 1) true .l (.load false 1 (.l 0))),(.g (.l 2) true .l (.fad 1 (.v 3))),(.g (.l 3) true .l (.load false 1 (.l 0))),(.g (.l 4) true .l (.bin (.int .i64) .eql (.l 2) (.l 0))),(.i .l (.pick (.l 5) (.l 0) (.c (.bool false)))),(.i .l (.mv (.l 0))),(.g (.l 0) true .l (.fad 2 (.v 2))),(.g (.l 1) true .l (.load false 1 (.l 0))),(.g (.l 2) true .l (.fad 2 (.v 3))),(.g (.l 3) true .l (.load false 1 (.l 0))),(.g (.l 4) true .l (.call (.c (.fn 29 [] [])) [(.l 2),(.l 0)])),(.i .l (.pick (.l 5) (.l 0) (.c (.bool false)))),(.i (.v 4) (.mv (.l 0)))]),.ret]
theorem Bx:FnR Try.prog po 19 2 5 [0,1,2,3,4] rP [(.v 4)] true:=⟨_,_,Try.func19,rfl,rfl,by kernel_rfl,by kernel_rfl,by kernel_rfl,by kernel_rfl,by kernel_rfl⟩
def fZ:List RS:=[(.ops [(.i .l (.mv (.v 3))),(.i .l (.mv (.v 0))),(.i .l (.len false (some 29) (.l 0))),(.i (.v 5) (.bin (.int .i64) .lss (.l 2) (.l 0)))]),(.cond (.v 5) [] [(.exit 0)]),(.block 1 [(.ops [(.i .l (.mv (.v 0))),(.i .l (.mv (.v 3))),(.i .l (.ixa (some 29) none (.l 1) (.l 0))),(.i .l (.load true 3 (.l 0))),(.i .l (.mv (.v 1))),(.i .l (.mv (.v 3))),(.i .l (.ixa (some 29) none (.l 1) (.l 0))),(.i .l (.load true 3 (.l 0))),(.i .l (.call (.c (.fn 19 [] [])) [(.l 4),(.l 0)])),(.i (.v 6) (.un .not (.l 0)))]),(.cond (.v 6) [(.ops [(.i (.v 2) (.mv (.c (.bool false))))]),.ret] [])]),(.ops [(.i .l (.mv (.v 3))),(.i .l (.bin (.int .i64) .add (.l 0) (.c (.int .i64 1)))),(.i (.v 3) (.mv (.l 0)))])]
def lN:List RS:=[(.ops [(.i (.v 2) (.mv (.c (.bool false))))]),(.ops [(.i .l (.mv (.v 0))),(.i .l (.len false (some 29) (.l 0))),(.i .l (.mv (.v 1))),(.i .l (.len false (some 29) (.l 0))),(.i (.v 4) (.bin (.int .i64) .neq (.l 2) (.l 0)))]),(.cond (.v 4) [(.ops [(.i (.v 2) (.mv (.c (.bool false))))]),.ret] []),(.ops [(.i (.v 3) (.mv (.c (.int .i64 0))))]),(.block 0 [(.loop fZ)]),(.ops [(.i (.v 2) (.mv (.c (.bool true))))]),.ret]
theorem qu:FnR Try.prog po 29 2 7 [0,1,4,5,10,14,26] lN [(.v 2)] true:=⟨_,_,Try.func29,rfl,rfl,by kernel_rfl,by kernel_rfl,by kernel_rfl,by kernel_rfl,by kernel_rfl⟩
theorem yW {x y:VD} {i:Nat} (h:x.l[i]? =some y):bE (x.l.take (i+1))=bE (x.l.take i)+y.size∧bE (x.l.take (i+1))≤bE x.l:=by
 have e:=jZ h
 constructor
 ·rw[e,gW,BC]
 ·have:=gW (x.l.take (i+1)) (x.l.drop (i+1))
  rw[List.take_append_drop]at this
  omega
theorem vU (l:List VD) (i:Nat):bE (l.take i)≤bE l:=by
 have:=gW (l.take i) (l.drop i)
 rw[List.take_append_drop]at this
 omega
theorem GK (l:List VD) {i:Nat} (hi:i<l.length):i≤bE (l.take i):=by
 have:=ni (l.take i)
 rw[List.length_take]at this
 omega
theorem jw {l:List VD} {i:Nat} {y:VD} (h:l[i]? =some y):y∈l:=List.mem_of_getElem? h
theorem lB {l:List VD} {i:Nat} (h:i<l.length):∃ y,l[i]? =some y:=⟨_,List.getElem?_eq_getElem h⟩
section
variable {h:AH}
def ka (left:Int) (n:Nat):Int:=if(n:Int)≤left then left - n else -1
theorem E1:∀ (N:Nat) (x:VD),SizeOf.sizeOf x≤N→∀ (r:List AV) (h:AH) (left:Int),VaA x r→0≤left→left≤100000→
  aj Try.prog po 49 [.agg r,.int .i64 left] h=some (.inl (.int .i64 (ka left x.size)),h):=by
 intro N
 induction N with
 | zero=>intro x hx;have:=x.so_pos;omega
 | succ N ih=>
   intro x hx r h left he h0 h1
   obtain⟨v,es,rfl,hsl,hv,hn,hix⟩:=he.facts
   have hs:=x.size_eq
   have w1:=w64 (n:=left - 1) (by omega) (by omega)
   refine gH Gd rfl fun Q hQ=> ?_;unfold Ae
   simp only[sim,ag,reduceAdd,reduceSub,replicate,reduceCtorEq,reduceLeDiff,reduceLT,aa,hv,w1]
   refine jd (fun i V h'=>∃ v5 cur,V=[.agg [.int .i64 x.kind,.int .i64 x.n,v],.int .i64 cur,.ptr h.n 0 0,.int .i64 0,.int .i64 (i:Nat),v5]∧h'=h.push [[.int .i64 x.kind,.int .i64 x.n,v]]∧cur=ka left (1+bE (x.l.take i))) x.l.length ⟨_,_,rfl,rfl,?_⟩ ?_ ?_
   ·simp only[ka,List.take_zero,bE]
    split<;>omega
   ·rintro i V h' hi ⟨v5,cur,rfl,rfl,hc⟩ next
    have hlt:(i:Int)<(es.length:Int):=by rw[hn];omega
    by_cases hp:0≤cur
    ·obtain⟨y,hy⟩:=lB hi
     obtain⟨q,i1,d1,x1⟩:=hix i y hy
     obtain⟨z1,z2⟩:=yW hy
     have hil:=GK x.l hi
     have hcl:cur≤100000∧(i:Int)<100000:=by
      rw[hc,ka]at hp ⊢
      split at hp
      ·rename_i hh
       rw[if_pos hh]
       omega
      ·omega
     have hw:=w64 (n:=(i:Int)+1) (by omega) (by omega)
     have e1:=ih y (by have:=VD.lt_mem (jw hy);omega) q (h.push [[.int .i64 x.kind,.int .i64 x.n,v]]) cur x1 hp (by omega)
     rw[aB jy.eq_1]
     simp only[sim,ag,reduceAdd,reduceSub,replicate,reduceCtorEq,reduceLeDiff,reduceLT,aa,hsl.len,hsl.fits,hlt,hp,i1,d1,e1,hw]
     refine next _ _ ⟨_,_,rfl,rfl,?_⟩
     rw[z1,hc]
     rw[hc]at hp
     simp only[ka]at hp ⊢
     repeat' split<;>omega
    ·rw[aB jy.eq_1]
     simp only[sim,ag,reduceAdd,reduceSub,replicate,reduceCtorEq,reduceLeDiff,reduceLT,aa,hsl.len,hsl.fits,hlt,hp]
     refine hQ _ _ _ rfl (by repeat (first | exact af.refl _ | refine af.trans ?_ (af.push _ _) | refine af.trans ?_ (af.fresh _ _))) ?_
     have e:cur=ka left x.size:=by
      rw[hc,ka]at hp
      rw[hc,ka,ka,hs]
      have:=vU x.l i
      split at hp
      ·omega
      ·rename_i hh
       rw[if_neg hh,if_neg (by omega)]
     rw[←e]
     rfl
   ·rintro V h' ⟨v5,cur,rfl,rfl,hc⟩
    have hlt:¬ ((x.l.length:Int)<(es.length:Int)):=by rw[hn];omega
    rw[List.take_length,←hs]at hc
    rw[aB jy.eq_1]
    simp only[sim,ag,reduceAdd,reduceSub,replicate,reduceCtorEq,reduceLeDiff,reduceLT,aa,hsl.len,hsl.fits,hlt]
    exact hQ _ _ _ rfl (by repeat (first | exact af.refl _ | refine af.trans ?_ (af.push _ _) | refine af.trans ?_ (af.fresh _ _))) (by rw[←hc];rfl)
theorem Cm {kind n:Int} {len:Nat} (h:dN kind n len=0):len=jn kind∧(kind=0∨kind=1∨kind=2∨kind=3∨kind=4∨kind=5):=by
 unfold dN at h
 split at h
 ·cases h
 ·split at h
  ·cases h
  ·exact⟨by omega,by omega⟩
theorem Hk (kind:Int):jn kind≤2:=by unfold jn;split;omega;split<;>omega
theorem yf {l:List VD} {i:Nat} {y:VD} (h:l[i]? =some y):dw (l.drop i)=if y.fault≠0 then y.fault else dw (l.drop (i+1)):=by
 obtain⟨hi,rfl⟩:=List.getElem?_eq_some_iff.1 h
 rw[List.drop_eq_getElem_cons hi,gt]
end
def xg:List RS:=[(.ops [(.i (.v 2) (.mv (.c (.bool false))))]),(.ops [(.i .l (.mv (.v 0))),(.i .l (.mv (.v 1))),(.i .l (.bin (.int .i64) .and (.l 1) (.l 0))),(.i .l (.mv (.v 1))),(.i .l (.bin (.int .i64) .eql (.l 1) (.l 0))),(.i (.v 2) (.mv (.l 0)))]),.ret]
theorem CY:FnR Try.prog po 132 2 3 [0,1,4] xg [(.v 2)] true:=⟨_,_,Try.func132,rfl,rfl,by kernel_rfl,by kernel_rfl,by kernel_rfl,by kernel_rfl,by kernel_rfl⟩
def tJ:List RS:=[(.ops [(.i (.v 2) (.mv (.v 0)))]),(.cond (.v 2) [(.ops [(.i .l (.mv (.v 1))),(.i .l (.mki 200 (.l 0))),(.i .n (.pan (.l 0)))])] [])]
theorem yD:FnR Try.prog po 142 2 3 [0,1,4] tJ [] true:=⟨_,_,Try.func142,rfl,rfl,by kernel_rfl,by kernel_rfl,by kernel_rfl,by kernel_rfl,by kernel_rfl⟩
def kA:List RS:=[(.ops [(.i (.v 9) (.bin (.int .i64) .lss (.v 8) (.v 7)))]),(.cond (.v 9) [] [(.exit 0)]),(.block 1 [(.ops [(.i .l (.ixa (some 3) none (.v 6) (.v 8))),(.i .l (.load false 1 (.l 0))),(.i (.v 3) (.mv (.l 0)))]),(.ops [(.i .l (.mv (.v 0))),(.i .l (.nilc (.l 0))),(.i .l (.fad 0 (.l 0))),(.i .l (.load false 1 (.l 0))),(.i .l (.mv (.v 1))),(.i .l (.mv (.v 3))),(.i .l (.call (.c (.fn 79 [] [])) [(.l 2),(.l 1),(.c (.int .i64 15)),(.l 0)])),(.i .l (.mv (.l 0))),(.i .l (.ext (.l 0) 0)),(.i .l (.ext (.l 1) 1)),(.i (.v 4) (.mv (.l 1))),(.i (.v 5) (.mv (.l 0)))]),(.ops [(.i .l (.mv (.v 5))),(.i .l (.bin (.int .i64) .neq (.l 0) (.c (.int .i64 0)))),(.i .l (.mv (.v 5))),(.i .l (.call (.c (.fn 142 [] [])) [(.l 1),(.l 0)]))]),(.ops [(.i .l (.mv (.v 4))),(.i (.v 1) (.mv (.l 0)))])]),(.ops [(.i .l (.bin (.int .i64) .add (.v 8) (.c (.int .i64 1)))),(.i (.v 8) (.mv (.l 0)))])]
def Du:List RS:=[(.ops [(.i (.v 2) (.mv (.c (.int .i64 0))))]),(.ops [(.i .l (.mv (.v 0))),(.i .l (.nilc (.l 0))),(.i .l (.fad 1 (.l 0))),(.i (.v 6) (.load false 1 (.l 0))),(.i (.v 7) (.len false (some 3) (.v 6))),(.i (.v 8) (.mv (.c (.int .i64 0))))]),(.block 0 [(.loop kA)]),(.ops [(.i .l (.mv (.v 1))),(.i (.v 2) (.mv (.l 0)))]),.ret]
theorem Lr:FnR Try.prog po 134 2 10 [0,1,4,6,7,8,12,13,14,15] Du [(.v 2)] false:=⟨_,_,Try.func134,rfl,rfl,by kernel_rfl,by kernel_rfl,by kernel_rfl,by kernel_rfl,by kernel_rfl⟩
def jr:List RS:=[(.ops [(.i (.v 10) (.bin (.int .i64) .lss (.v 9) (.v 8)))]),(.cond (.v 10) [] [(.exit 0)]),(.block 1 [(.ops [(.i .l (.ixa (some 29) none (.v 7) (.v 9))),(.i .l (.load true 3 (.l 0))),(.i (.v 5) (.alloc [(.int .i64 0),(.int .i64 0),.nils])),(.i .n (.store 3 (.v 5) (.l 0)))]),(.ops [(.i .l (.fad 2 (.v 4))),(.i .l (.load false 1 (.l 0))),(.i .l (.mv (.v 0))),(.i .l (.load true 3 (.v 5))),(.i .l (.call (.c (.fn 122 [] [])) [(.l 1),(.l 0)])),(.ck [⟨none,false,1,(.l 4),(.l 3)⟩]),(.i .l (.bsl false 29 [(.int .i64 0),(.int .i64 0),.nils] 3 1 [(0,(.l 0))])),(.ck [⟨none,false,1,(.l 5),(.l 4)⟩]),(.i .l (.app false 29 (.l 4) (.l 0))),(.i .l (.fad 2 (.v 4))),(.i .n (.store 1 (.l 0) (.l 1)))])]),(.ops [(.i .l (.bin (.int .i64) .add (.v 9) (.c (.int .i64 1)))),(.i (.v 9) (.mv (.l 0)))])]
def CG:List RS:=[(.ops [(.i (.v 2) (.box 3 (.v 1))),(.i (.v 3) (.alloc [(.int .i64 0),(.int .i64 0),.nils]))]),(.ops [(.i .l (.fad 0 (.v 2))),(.i .l (.load false 1 (.l 0))),(.i .l (.fad 1 (.v 2))),(.i .l (.load false 1 (.l 0))),(.i .l (.build [(.int .i64 0),(.int .i64 0),.nils] [(0,1),(1,1),(2,1)] [(0,(.l 2)),(1,(.l 0))])),(.i (.v 4) (.alloc [(.int .i64 0),(.int .i64 0),.nils])),(.i .n (.store 3 (.v 4) (.l 0)))]),(.ops [(.i .l (.fad 0 (.v 2))),(.i .l (.load false 1 (.l 0))),(.i (.v 6) (.bin (.int .i64) .eql (.l 0) (.c (.int .i64 4))))]),(.cond (.v 6) [(.ops [(.i .l (.mv (.v 0))),(.i .l (.fad 1 (.v 2))),(.i .l (.load false 1 (.l 0))),(.i .l (.call (.c (.fn 134 [] [])) [(.l 2),(.l 0)])),(.i .l (.fad 1 (.v 4))),(.i .n (.store 1 (.l 0) (.l 1)))])] []),(.ops [(.i .l (.fad 2 (.v 2))),(.i (.v 7) (.load false 1 (.l 0))),(.i (.v 8) (.len false (some 29) (.v 7))),(.i (.v 9) (.mv (.c (.int .i64 0))))]),(.block 0 [(.loop jr)]),(.ops [(.i .l (.load true 3 (.v 4))),(.i .n (.store 3 (.v 3) (.l 0)))]),.ret]
theorem Ks:FnR Try.prog po 122 2 11 [0,1,3,4,5,7,15,22,23,24,25] CG [(.cell true 3 3)] false:=⟨_,_,Try.func122,rfl,rfl,by kernel_rfl,by kernel_rfl,by kernel_rfl,by kernel_rfl,by kernel_rfl⟩
def kv:List RS:=[(.ops [(.i (.v 11) (.bin (.int .i64) .lss (.v 10) (.v 9)))]),(.cond (.v 11) [] [(.exit 0)]),(.block 1 [(.ops [(.i .l (.ixa (some 3) none (.v 8) (.v 10))),(.i .l (.load false 1 (.l 0))),(.i (.v 5) (.mv (.l 0)))]),(.ops [(.i .l (.mv (.v 0))),(.i .l (.mv (.v 5))),(.i .l (.call (.c (.fn 133 [] [])) [(.l 1),(.l 0)])),(.i .l (.call (.c (.fn 132 [] [])) [(.l 0),(.c (.int .i64 4))])),(.i (.v 12) (.un .not (.l 0)))]),(.cond (.v 12) [(.ops [(.i (.v 3) (.mv (.c (.int .i64 9))))]),.ret] [])]),(.ops [(.i .l (.bin (.int .i64) .add (.v 10) (.c (.int .i64 1)))),(.i (.v 10) (.mv (.l 0)))])]
def q7:List RS:=[(.ops [(.i (.v 2) (.box 3 (.v 1))),(.i (.v 3) (.mv (.c (.int .i64 0))))]),(.ops [(.i .l (.load true 3 (.v 2))),(.i .l (.call (.c (.fn 18 [] [])) [(.l 0)])),(.i (.v 4) (.mv (.l 0)))]),(.ops [(.i .l (.mv (.v 4))),(.i (.v 6) (.bin (.int .i64) .neq (.l 0) (.c (.int .i64 0))))]),(.cond (.v 6) [(.ops [(.i .l (.mv (.v 4))),(.i (.v 3) (.mv (.l 0)))]),.ret] []),(.ops [(.i .l (.load true 3 (.v 2))),(.i (.v 7) (.call (.c (.fn 130 [] [])) [(.l 0)]))]),(.cond (.v 7) [(.ops [(.i (.v 3) (.mv (.c (.int .i64 9))))]),.ret] []),(.ops [(.i .l (.load true 3 (.v 2))),(.i (.v 8) (.call (.c (.fn 131 [] [])) [(.l 0)])),(.i (.v 9) (.len false (some 3) (.v 8))),(.i (.v 10) (.mv (.c (.int .i64 0))))]),(.block 0 [(.loop kv)]),(.ops [(.i (.v 3) (.mv (.c (.int .i64 0))))]),.ret]
theorem xr:FnR Try.prog po 120 2 13 [0,1,3,4,5,7,11,14,16,17,18,19,26] q7 [(.v 3)] true:=⟨_,_,Try.func120,rfl,rfl,by kernel_rfl,by kernel_rfl,by kernel_rfl,by kernel_rfl,by kernel_rfl⟩
theorem Qa (x:VD):(id x).kind=x.kind:=rfl
theorem P5 (x:VD):(id x).l=x.l.map id:=by simp
section
variable {h:AH}
theorem Ly (i:Option Nat):∀ (k:Int),(k=0∨k=1∨k=2∨k=3∨k=4∨k=5)→bT (some 3) none (.isl i 3 [[.int .i64 0],[.int .i64 0],[.int .i64 2],[.int .i64 1],[.int .i64 0],[.int .i64 0]]) (.int .i64 k)=some (.ip [.int .i64 (jn k:Nat)] 0):=by
 rintro k (rfl | rfl | rfl | rfl | rfl | rfl)<;>rfl
set_option maxHeartbeats 1000000 in
theorem Bz:∀ (N:Nat) (x:VD),SizeOf.sizeOf x≤N→∀ (r:List AV) (h:AH),VaA x r→
  aj Try.prog po 50 [.agg r] h=some (.inl (.int .i64 x.fault),h):=by
 intro N
 induction N with
 | zero=>intro x hx;have:=x.so_pos;omega
 | succ N ih=>
   intro x hx r h he
   obtain⟨v,es,rfl,hsl,hv,hn,hix⟩:=he.facts
   have hfe:=x.fault_eq
   rw[hfe]
   have loop:dN x.kind x.n x.l.length=0→∀ (Q:jI→Prop) (v3 v6 v7 v8:AV),(∀ V h',(fz V h' [.v 2]).map fU=some (.int .i64 (dw x.l))→af h h'→Q (some (.ret,V,h')))→
     Q (aq (aj Try.prog po) 14 (.lp gu:: .ss []:: .blk 1::[.ss [.ops [(.i (.v 2) (.mv (.c (.int .i64 0))))],.ret]])
       [.agg [.int .i64 x.kind,.int .i64 x.n,v],.ptr h.n 0 0,.int .i64 0,v3,.junk,.junk,v6,v7,v8,v,.int .i64 es.length,.int .i64 0,.junk,.junk] [] ((h.push [[.int .i64 x.kind,.int .i64 x.n,v]]).fresh 6)):=by
    intro hd Q v3 v6 v7 v8 hQ
    obtain⟨hlen, -⟩:=Cm hd
    have hwf:=Hk x.kind
    refine jd (fun i V h'=>∃ v4 v5 v12 v13,V=[.agg [.int .i64 x.kind,.int .i64 x.n,v],.ptr h.n 0 0,.int .i64 0,v3,v4,v5,v6,v7,v8,v,.int .i64 es.length,.int .i64 (i:Nat),v12,v13]∧af h h'∧dw (x.l.drop i)=dw x.l) x.l.length ⟨_,_,_,_,rfl,(by repeat (first | exact af.refl _ | refine af.trans ?_ (af.push _ _) | refine af.trans ?_ (af.fresh _ _))),rfl⟩ ?_ ?_
    ·rintro i V h' hi ⟨v4,v5,v12,v13,rfl,g,hc⟩ next
     have hlt:(i:Int)<(es.length:Int):=by rw[hn];omega
     obtain⟨y,hy⟩:=lB hi
     obtain⟨q,i1,d1,x1⟩:=hix i y hy
     obtain⟨o1,o2⟩:=x1.one
     have hw:=w64 (n:=(i:Int)+1) (by omega) (by omega)
     have e1:=ih y (by have:=VD.lt_mem (jw hy);omega) q (h'.push [q]) x1
     rw[yf hy]at hc
     by_cases hf:y.fault=0
     ·rw[if_neg (by simp[hf])]at hc
      rw[hf]at e1
      rw[aB gu.eq_1]
      simp only[sim,ag,reduceAdd,reduceSub,replicate,reduceCtorEq,reduceLeDiff,reduceLT,aa,hlt,i1,d1,o1,o2,bo o2,e1,hw]
      exact next _ _ ⟨_,_,_,_,rfl,g.trans (by repeat (first | exact af.refl _ | refine af.trans ?_ (af.push _ _) | refine af.trans ?_ (af.fresh _ _))),hc⟩
     ·rw[if_pos hf]at hc
      rw[aB gu.eq_1]
      simp only[sim,ag,reduceAdd,reduceSub,replicate,reduceCtorEq,reduceLeDiff,reduceLT,aa,hlt,i1,d1,o1,o2,bo o2,e1,hf]
      exact hQ _ _ (by rw[←hc];rfl) (g.trans (by repeat (first | exact af.refl _ | refine af.trans ?_ (af.push _ _) | refine af.trans ?_ (af.fresh _ _))))
    ·rintro V h' ⟨v4,v5,v12,v13,rfl,g,hc⟩
     have hlt:¬ ((x.l.length:Int)<(es.length:Int)):=by rw[hn];omega
     rw[List.drop_length]at hc
     rw[aB gu.eq_1]
     simp only[sim,ag,reduceAdd,reduceSub,replicate,reduceCtorEq,reduceLeDiff,reduceLT,aa,hlt]
     exact hQ _ _ (by rw[←hc];rfl) g
   refine gH Fe rfl fun Q hQ=> ?_;unfold vC
   by_cases hk:x.kind=0∨x.kind=1∨x.kind=2∨x.kind=3∨x.kind=4∨x.kind=5
   ·have wi:=fun i=>Ly i x.kind hk
    have k0:¬ x.kind<0:=by omega
    have k5:¬ 5<x.kind:=by omega
    by_cases hl:(x.l.length:Nat)=jn x.kind
    ·have hl':(es.length:Int)=(jn x.kind:Int):=by rw[hn,hl]
     have hh0:dN x.kind x.n x.l.length=if(x.kind=0∨x.kind=2)∧x.n≠0 then 5 else if 3≤x.kind∧x.n<0 then 1 else 0:=by
      unfold dN
      rw[if_neg (by omega),if_neg (by omega)]
     have L:=loop
     rw[hh0]at L hQ
     rw[hl']at L
     by_cases hz:x.n=0
     ·rcases hk with hk | hk | hk | hk | hk | hk
      all_goals
       rw[hk]at hl' L hQ wi
       simp only[jn,Int.reduceEq,if_false,if_true,Int.cast_ofNat_Int,Int.natCast_zero,Int.natCast_one,hz,not_true,ne_eq,and_false,Int.lt_irrefl]at hl' L hQ wi
       simp only[sim,ag,reduceAdd,reduceSub,replicate,reduceCtorEq,reduceLeDiff,reduceLT,aa,hv,hk,hz,Int.reduceEq,Int.reduceLT,Int.reduceLE,hsl.len,hsl.fits,hl',wi,Int.lt_irrefl]
       exact L trivial _ _ _ _ _ fun V h' e g=>hQ _ _ _ e g rfl
     ·by_cases hng:x.n<0
      all_goals
       rcases hk with hk | hk | hk | hk | hk | hk
       all_goals
        rw[hk]at hl' L hQ wi
        simp only[jn,Int.reduceEq,Int.reduceLE,if_false,if_true,Int.cast_ofNat_Int,Int.natCast_zero,Int.natCast_one,hz,hng,not_true,not_false_eq_true,ne_eq,and_false,and_true,true_or,or_true,false_or,or_false,or_self]at hl' L hQ wi
        simp only[sim,ag,reduceAdd,reduceSub,replicate,reduceCtorEq,reduceLeDiff,reduceLT,aa,hv,hk,hz,hng,Int.reduceEq,Int.reduceLT,Int.reduceLE,hsl.len,hsl.fits,hl',wi]
        first
         | exact hQ _ _ _ rfl (by repeat (first | exact af.refl _ | refine af.trans ?_ (af.push _ _) | refine af.trans ?_ (af.fresh _ _))) rfl
         | exact L trivial _ _ _ _ _ fun V h' e g=>hQ _ _ _ e g rfl
    ·have hh:dN x.kind x.n x.l.length=5:=by
      unfold dN
      rw[if_neg (by omega),if_pos hl]
     have hl':¬ (es.length:Int)=(jn x.kind:Int):=by rw[hn];omega
     rw[hh]at hQ
     simp only[sim,ag,reduceAdd,reduceSub,replicate,reduceCtorEq,reduceLeDiff,reduceLT,aa,hv,k0,k5,hsl.len,hsl.fits,wi,hl']
     exact hQ _ _ _ rfl (by repeat (first | exact af.refl _ | refine af.trans ?_ (af.push _ _) | refine af.trans ?_ (af.fresh _ _))) rfl
   ·have hh:dN x.kind x.n x.l.length=2:=by
     unfold dN
     rw[if_pos (by omega)]
    rw[hh]at hQ
    by_cases k0:x.kind<0
    ·simp only[sim,ag,reduceAdd,reduceSub,replicate,reduceCtorEq,reduceLeDiff,reduceLT,aa,hv,k0]
     exact hQ _ _ _ rfl (by repeat (first | exact af.refl _ | refine af.trans ?_ (af.push _ _) | refine af.trans ?_ (af.fresh _ _))) rfl
    ·have k5:5<x.kind:=by omega
     simp only[sim,ag,reduceAdd,reduceSub,replicate,reduceCtorEq,reduceLeDiff,reduceLT,aa,hv,k0,k5]
     exact hQ _ _ _ rfl (by repeat (first | exact af.refl _ | refine af.trans ?_ (af.push _ _) | refine af.trans ?_ (af.fresh _ _))) rfl
theorem kI {x:VD} {r:List AV} (he:VaA x r):aj Try.prog po 18 [.agg r] h=some (.inl (.int .i64 x.code),h):=by
 obtain⟨o1,o2⟩:=he.one
 have e1:=fun h=>E1 _ x (Nat.le_refl _) r h 40 he (by omega) (by omega)
 have e2:=fun h=>Bz _ x (Nat.le_refl _) r h he
 by_cases hs:40<x.size
 ·have e3:ka 40 x.size= -1:=by rw[ka,if_neg (by omega)]
  have e4:x.code=3:=by rw[VD.code,if_pos hs]
  rw[e4]
  simp only[e3]at e1
  refine gH uX rfl fun Q hQ=> ?_;unfold pX
  simp only[sim,ag,reduceAdd,reduceSub,replicate,reduceCtorEq,reduceLeDiff,reduceLT,aa,o1,o2,bo o2,e1,Int.reduceLT]
  exact hQ _ _ _ rfl (by repeat (first | exact af.refl _ | refine af.trans ?_ (af.push _ _) | refine af.trans ?_ (af.fresh _ _))) rfl
 ·have e3:¬ ka 40 x.size<0:=by rw[ka,if_pos (by omega)];omega
  have e4:x.code=x.fault:=by rw[VD.code,if_neg hs]
  rw[e4]
  refine gH uX rfl fun Q hQ=> ?_;unfold pX
  simp only[sim,ag,reduceAdd,reduceSub,replicate,reduceCtorEq,reduceLeDiff,reduceLT,aa,o1,o2,bo o2,e1,e3,e2]
  exact hQ _ _ _ rfl (by repeat (first | exact af.refl _ | refine af.trans ?_ (af.push _ _) | refine af.trans ?_ (af.fresh _ _))) rfl
theorem z9 {l l':List VD} {i:Nat} {x y:VD} (h1:l[i]? =some x) (h2:l'[i]? =some y):ft (l.drop i) (l'.drop i)=(mR x y && ft (l.drop (i+1)) (l'.drop (i+1))):=by
 obtain⟨k1,rfl⟩:=List.getElem?_eq_some_iff.1 h1
 obtain⟨k2,rfl⟩:=List.getElem?_eq_some_iff.1 h2
 rw[List.drop_eq_getElem_cons k1,List.drop_eq_getElem_cons k2]
 rfl
theorem xj (l l':List VD) (v w:AV) (hv:∀ h,su h v l) (hw:∀ h,su h w l') (hl:l.length≤100000)
  (hc:∀ x∈l,∀ (y:VD) (q q':List AV) (h:AH),VaA x q→VaA y q'→aj Try.prog po 19 [.agg q,.agg q'] h=some (.inl (.bool (mR x y)),h)):
  aj Try.prog po 29 [v,w] h=some (.inl (.bool (ft l l')),h):=by
 have vl:=(hv h).len
 have vf:=(hv h).fits
 have wl:=(hw h).len
 have wf:=(hw h).fits
 cases hd:decide ((l.length:Int)=(l'.length:Int))
 ·rw[FV hd]
  refine gH qu rfl fun Q hQ=> ?_;unfold lN
  simp only[sim,ag,reduceAdd,reduceSub,replicate,reduceCtorEq,reduceLeDiff,reduceLT,aa,vl,vf,wl,wf,hd]
  exact hQ _ _ _ rfl (by repeat (first | exact af.refl _ | refine af.trans ?_ (af.push _ _) | refine af.trans ?_ (af.fresh _ _))) rfl
 ·have hll:l.length=l'.length:=by have:=of_decide_eq_true hd;omega
  refine gH qu rfl fun Q hQ=> ?_;unfold lN
  simp only[sim,ag,reduceAdd,reduceSub,replicate,reduceCtorEq,reduceLeDiff,reduceLT,aa,vl,vf,wl,wf,hd]
  refine jd (fun i V h'=>∃ v4 v5 v6,V=[v,w,.bool false,.int .i64 (i:Nat),v4,v5,v6]∧af h h'∧ft (l.drop i) (l'.drop i)=ft l l') l.length ⟨_,_,_,rfl,af.refl _,rfl⟩ ?_ ?_
  ·rintro i V h' hi ⟨v4,v5,v6,rfl,g,hs⟩ next
   have hlt:(i:Int)<(l.length:Int):=by omega
   have hwi:=w64 (n:=(i:Int)+1) (by omega) (by omega)
   obtain⟨x,hx⟩:=lB hi
   obtain⟨y,hy⟩:=lB (l:=l') (i:=i) (by omega)
   obtain⟨a,q,i1,i2,x1⟩:=(hv h').ix i x hx
   obtain⟨b,q',j1,j2,y1⟩:=(hw h').ix i y hy
   have e1:=hc x (jw hx) y q q' h' x1 y1
   rw[z9 hx hy]at hs
   cases hb:mR x y
   ·rw[hb]at e1 hs
    rw[Bool.false_and]at hs
    rw[aB fZ.eq_1]
    simp only[sim,ag,reduceAdd,reduceSub,replicate,reduceCtorEq,reduceLeDiff,reduceLT,aa,vl,vf,hlt,i1,i2 _ (af.refl h'),j1,j2 _ (af.refl h'),e1]
    exact hQ _ _ _ rfl g (by rw[←hs];rfl)
   ·rw[hb]at e1 hs
    rw[Bool.true_and]at hs
    rw[aB fZ.eq_1]
    simp only[sim,ag,reduceAdd,reduceSub,replicate,reduceCtorEq,reduceLeDiff,reduceLT,aa,vl,vf,hlt,i1,i2 _ (af.refl h'),j1,j2 _ (af.refl h'),e1,hwi]
    exact next _ _ ⟨_,_,_,rfl,g,hs⟩
  ·rintro V h' ⟨v4,v5,v6,rfl,g,hs⟩
   have hlt:¬ ((l.length:Int)<(l.length:Int)):=by omega
   rw[List.drop_length,hll,List.drop_length]at hs
   rw[aB fZ.eq_1]
   simp only[sim,ag,reduceAdd,reduceSub,replicate,reduceCtorEq,reduceLeDiff,reduceLT,aa,vl,vf,hlt]
   exact hQ _ _ _ rfl g (by rw[←hs];rfl)
theorem Mj:∀ (N:Nat) (x:VD),SizeOf.sizeOf x≤N→x.size≤100000→∀ (y:VD) (q q':List AV) (h:AH),VaA x q→VaA y q'→
  aj Try.prog po 19 [.agg q,.agg q'] h=some (.inl (.bool (mR x y)),h):=by
 intro N
 induction N with
 | zero=>intro x hx;have:=x.so_pos;omega
 | succ N ih=>
   intro x hx hsz y q q' h hq hq'
   obtain⟨v,es,rfl,hs,hl⟩:=hq.row
   obtain⟨w,es',rfl,hs',hl'⟩:=hq'.row
   have mv:∀ h,su h v x.l:=fun h=>su.of hs hl
   have mw:∀ h,su h w y.l:=fun h=>su.of hs' hl'
   have hlen:=x.len_size
   have e1:=fun h=>xj (h:=h) x.l y.l v w mv mw (by omega) (fun z hz y q q' h=>ih z (by have:=VD.lt_mem hz;omega) (by have:=VD.size_mem hz;omega) y q q' h)
   have o1:=(mv h).one
   have o2:=(mw h).one
   rw[Gi]
   refine gH Bx rfl fun Q hQ=> ?_;unfold rP
   cases hk:decide (x.kind=y.kind)
   ·simp only[sim,ag,reduceAdd,reduceSub,replicate,reduceCtorEq,reduceLeDiff,reduceLT,aa,o1,o2,hk]
    exact hQ _ _ _ rfl (by repeat (first | exact af.refl _ | refine af.trans ?_ (af.push _ _) | refine af.trans ?_ (af.fresh _ _))) (by rw[hk];rfl)
   ·cases hn:decide (x.n=y.n)
    ·simp only[sim,ag,reduceAdd,reduceSub,replicate,reduceCtorEq,reduceLeDiff,reduceLT,aa,o1,o2,hk,hn]
     exact hQ _ _ _ rfl (by repeat (first | exact af.refl _ | refine af.trans ?_ (af.push _ _) | refine af.trans ?_ (af.fresh _ _))) (by rw[hk,hn];rfl)
    ·simp only[sim,ag,reduceAdd,reduceSub,replicate,reduceCtorEq,reduceLeDiff,reduceLT,aa,o1,o2,hk,hn,e1]
     exact hQ _ _ _ rfl (by repeat (first | exact af.refl _ | refine af.trans ?_ (af.push _ _) | refine af.trans ?_ (af.fresh _ _))) (by rw[hk,hn];rfl)
def IV (V:List AV):AV:=V.getD 2 .junk
set_option maxHeartbeats 1000000 in
theorem EH:∀ (N:Nat) (x:VD),SizeOf.sizeOf x≤N→x.size≤100000→∀ (r:List AV) (h:AH),VaA x r→
  aj Try.prog po 131 [.agg r] h=some (.inl (cQ 3 (bq x.caps)),h):=by
 intro N
 induction N with
 | zero=>intro x hx;have:=x.so_pos;omega
 | succ N ih=>
   intro x hx hsz r h he
   obtain⟨v,es,rfl,hsl,hv,hn,hix⟩:=he.facts
   have hlen:=x.len_size
   have hs:=x.size_eq
   have rest:∀ (Q:jI→Prop) (h0:AH) (acc0:AV) (c0:List Int) (v5:AV),Acc h h0 3 acc0 (bq c0)→af h h0→h.n<h0.n→h0.cell h.n=some [[.int .i64 x.kind,.int .i64 x.n,v]]→c0.length≤1→
     (∀ V h',(fz V h' [.v 2]).map fU=some (IV V)→af h h'→wkA (IV V)=some (cQ 3 (bq (c0++dm x.l)))→Q (some (.ret,V,h')))→
     Q (aq (aj Try.prog po) 10 (.lp jE:: .ss []:: .blk 0::[.ss [.ops [(.i .l (.mv (.v 3))),(.i (.v 2) (.mv (.l 0)))],.ret]])
       [.agg [.int .i64 x.kind,.int .i64 x.n,v],.ptr h.n 0 0,.nils,acc0,.junk,v5,v,.int .i64 es.length,.int .i64 0,.junk] [] h0):=by
    intro Q h0 acc0 c0 v5 ha0 g0 hn0 k0 hc0 hQ
    refine jd (fun i V h'=>∃ acc w4 w9,V=[.agg [.int .i64 x.kind,.int .i64 x.n,v],.ptr h.n 0 0,.nils,acc,w4,v5,v,.int .i64 es.length,.int .i64 (i:Nat),w9]∧
     af h h'∧h.n<h'.n∧h'.cell h.n=some [[.int .i64 x.kind,.int .i64 x.n,v]]∧Acc h h' 3 acc (bq (c0++dm (x.l.take i)))) x.l.length ⟨_,_,_,rfl,g0,hn0,k0,by simpa[dm]using ha0⟩ ?_ ?_
    ·rintro i V h' hi ⟨acc,w4,w9,rfl,g,hm,c1,ha⟩ next
     have hlt:(i:Int)<(es.length:Int):=by rw[hn];omega
     obtain⟨y,hy⟩:=lB hi
     obtain⟨q,i1,d1,x1⟩:=hix i y hy
     obtain⟨o1,o2⟩:=x1.one
     have hw:=w64 (n:=(i:Int)+1) (by omega) (by omega)
     have e1:=ih y (by have:=VD.lt_mem (jw hy);omega) (by have:=VD.size_mem (jw hy);omega) q (h'.push [q]) x1
     have cf:=nz (x.l.take i)
     have sl:=vU x.l i
     have cy:=y.caps_few
     have sy:=VD.size_mem (jw hy)
     obtain⟨acc2,h2,e2,a1,a2,a3,a4⟩:=GU (h:=(h'.push [q])) (show Acc h (h'.push [q]) _ acc _ from ha) (g.trans (af.push _ _)) (KY 3 (bq y.caps)) (Ju _) (by simp only[List.length_map,List.length_append];omega) (by simp only[List.length_map];omega)
     have a1':Acc h h2 3 acc2 (bq (c0++dm (x.l.take (i+1)))):=by
      rw[jZ hy,mP,←List.append_assoc]
      simpa[dm]using a1
     rw[aB jE.eq_1]
     simp only[sim,ag,reduceAdd,reduceSub,replicate,reduceCtorEq,reduceLeDiff,reduceLT,aa,c1,hsl.len,hsl.fits,hlt,i1,d1,o1,o2,bo o2,e1,e2,hw]
     exact next _ _ ⟨_,_,_,rfl,a2,by rw[a4];(show _<h'.n+1;omega),by rw[a3];(exact(aL hm).trans c1),a1'⟩
    ·rintro V h' ⟨acc,w4,w9,rfl,g,hm,c1,ha⟩
     have hlt:¬ ((x.l.length:Int)<(es.length:Int)):=by rw[hn];omega
     rw[List.take_length]at ha
     have hwA:=xe ha (fun r hr=>by obtain⟨n,_,rfl⟩:=List.mem_map.1 hr;rfl)
     rw[aB jE.eq_1]
     simp only[sim,ag,reduceAdd,reduceSub,replicate,reduceCtorEq,reduceLeDiff,reduceLT,aa,c1,hsl.len,hsl.fits,hlt]
     exact hQ _ _ rfl g hwA
   rw[x.caps_eq]
   refine gH Jk rfl fun Q hQ=> ?_;unfold yj
   by_cases h4:x.kind=4
   ·rw[h4]at rest
    have L:=rest
    obtain⟨acc1,h1,e1,a1,a2,a3,a4⟩:=mF (h0:=h) (h:=h.push [[.int .i64 4,.int .i64 x.n,v]]) (mD h _ 3) (by repeat (first | exact af.refl _ | refine af.trans ?_ (af.push _ _) | refine af.trans ?_ (af.fresh _ _))) (row:=[.int .i64 x.n]) rfl (by simp)
    simp only[hU]at e1
    simp only[sim,ag,reduceAdd,reduceSub,replicate,reduceCtorEq,reduceLeDiff,reduceLT,aa,hv,h4,hsl.len,hsl.fits,e1,a3]
    refine L _ _ _ [x.n] _ a1 a2 (by rw[a4];simp only[aM];omega) (by rw[a3];exact aC) (by simp) fun V h' e g w=>hQ _ _ _ e g ?_
    rw[w]
    simp[h4]
   ·simp only[sim,ag,reduceAdd,reduceSub,replicate,reduceCtorEq,reduceLeDiff,reduceLT,aa,hv,h4,hsl.len,hsl.fits]
    refine rest _ _ _ [] _ (mD _ _ _) (by repeat (first | exact af.refl _ | refine af.trans ?_ (af.push _ _) | refine af.trans ?_ (af.fresh _ _))) (by simp only[aM];omega) aC (by simp) fun V h' e g w=>hQ _ _ _ e g ?_
    rw[w]
    simp[h4]
theorem B0 (v:AV) (l:List VD) (hv:∀ h,su h v l) (hl:l.length≤100000) (g:FuncId) (p:VD→Bool) (hf:∀ y∈l,∀ q h,VaA y q→aj Try.prog po g [.agg q] h=some (.inl (.bool (p y)),h)):
  ∃ n:Int,aj Try.prog po 143 [v,.fn g [] []] h=some (.inl (.int .i64 n),h)∧decide (0≤n)=l.any p:=by
 suffices key:∃ v',aj Try.prog po 143 [v,.fn g [] []] h=some (.inl v',h)∧∃ n:Int,v'= .int .i64 n∧decide (0≤n)=l.any p by
  obtain⟨_,e,n,rfl,h2⟩:=key
  exact⟨n,e,h2⟩
 have vl:=(hv h).len
 have vf:=(hv h).fits
 refine BL ET rfl fun Q hQ=> ?_;unfold vP
 simp only[sim,ag,reduceAdd,reduceSub,replicate,reduceCtorEq,reduceLeDiff,reduceLT,aa,vl,vf]
 refine jd (fun i V h'=>∃ v2 v3 v6 v7,V=[v,.fn g [] [],v2,v3,.int .i64 l.length,.int .i64 (i:Nat),v6,v7]∧af h h'∧(l.drop i).any p=l.any p) l.length ⟨_,_,_,_,rfl,af.refl _,rfl⟩ ?_ ?_
 ·rintro i V h' hi ⟨v2,v3,v6,v7,rfl,g,hc⟩ next
  have hlt:(i:Int)<(l.length:Int):=by omega
  obtain⟨y,hy⟩:=lB hi
  obtain⟨a,q,i1,i2,x1⟩:=(hv h').ix i y hy
  have hw:=w64 (n:=(i:Int)+1) (by omega) (by omega)
  have e1:=hf y (jw hy) q h' x1
  have hd:(l.drop i).any p=(p y || (l.drop (i+1)).any p):=by
   obtain⟨hi',rfl⟩:=List.getElem?_eq_some_iff.1 hy
   rw[List.drop_eq_getElem_cons hi',List.any_cons]
  rw[hd]at hc
  cases hb:p y
  ·rw[hb]at e1 hc
   rw[Bool.false_or]at hc
   rw[aB iN.eq_1]
   simp only[sim,ag,reduceAdd,reduceSub,replicate,reduceCtorEq,reduceLeDiff,reduceLT,aa,az,List.append_nil,hlt,i1,i2 _ (af.refl h'),e1,hw]
   exact next _ _ ⟨_,_,_,_,rfl,g,hc⟩
  ·rw[hb]at e1 hc
   rw[Bool.true_or]at hc
   rw[aB iN.eq_1]
   simp only[sim,ag,reduceAdd,reduceSub,replicate,reduceCtorEq,reduceLeDiff,reduceLT,aa,az,List.append_nil,hlt,i1,i2 _ (af.refl h'),e1]
   exact hQ _ _ _ _ rfl g rfl ⟨i,rfl,by rw[←hc];simp⟩
 ·rintro V h' ⟨v2,v3,v6,v7,rfl,g,hc⟩
  have hlt:¬ ((l.length:Int)<(l.length:Int)):=by omega
  rw[List.drop_length]at hc
  rw[aB iN.eq_1]
  simp only[sim,ag,reduceAdd,reduceSub,replicate,reduceCtorEq,reduceLeDiff,reduceLT,aa,hlt]
  exact hQ _ _ _ _ rfl g rfl ⟨-1,rfl,by rw[←hc];rfl⟩
theorem B2:∀ (N:Nat) (x:VD),SizeOf.sizeOf x≤N→x.size≤100000→∀ (r:List AV) (h:AH),VaA x r→
  aj Try.prog po 130 [.agg r] h=some (.inl (.bool x.gate),h):=by
 intro N
 induction N with
 | zero=>intro x hx;have:=x.so_pos;omega
 | succ N ih=>
   intro x hx hsz r h he
   obtain⟨v,es,rfl,hs,hl⟩:=he.row
   have mv:∀ h,su h v x.l:=fun h=>su.of hs hl
   have hlen:=x.len_size
   have o1:=(mv h).one
   have e1:∀ h,aj Try.prog po 139 [v,.fn 130 [] []] h=some (.inl (.bool (mg x.l)),h):=by
    intro h
    obtain⟨n,e0,e2⟩:=B0 (h:=h) v x.l mv (by omega) 130 VD.gate (fun y hy q h hq=>ih y (by have:=VD.lt_mem hy;omega) (by have:=VD.size_mem hy;omega) q h hq)
    rw[qC,←e2]
    refine gH yb rfl fun Q hQ=> ?_;unfold nK
    simp only[sim,ag,reduceAdd,reduceSub,replicate,reduceCtorEq,reduceLeDiff,reduceLT,aa,e0]
    exact hQ _ _ _ rfl (by repeat (first | exact af.refl _ | refine af.trans ?_ (af.push _ _) | refine af.trans ?_ (af.fresh _ _))) rfl
   rw[x.gate_eq]
   refine gH E5 rfl fun Q hQ=> ?_;unfold uZ
   cases hk:decide (x.kind=5)
   ·simp only[sim,ag,reduceAdd,reduceSub,replicate,reduceCtorEq,reduceLeDiff,reduceLT,aa,o1,hk,e1]
    exact hQ _ _ _ rfl (by repeat (first | exact af.refl _ | refine af.trans ?_ (af.push _ _) | refine af.trans ?_ (af.fresh _ _))) (by rw[hk];rfl)
   ·simp only[sim,ag,reduceAdd,reduceSub,replicate,reduceCtorEq,reduceLeDiff,reduceLT,aa,o1,hk,e1]
    exact hQ _ _ _ rfl (by repeat (first | exact af.refl _ | refine af.trans ?_ (af.push _ _) | refine af.trans ?_ (af.fresh _ _))) (by rw[hk];rfl)
end
theorem eqF {a n:Nat} (h:a<n):(a=n)=False:=by simp;omega
theorem Qc {a n:Nat} (h:a<n):(n=a)=False:=by simp;omega
theorem xX {e:TypeId} {b n m:Nat} (hm:m≤n):eN (.msl b 0 n e) none (some (.int .i64 (m:Int)))=some (.msl b 0 m e):=by
 simp[eN,loA,hiA,dR,py,hm]
theorem oU {α β:Type} {f:α→β}:Option.map f none=none:=rfl
theorem oH {α β:Type} {f:α→β} {a:α}:Option.map f (some a)=some (f a):=rfl
abbrev zR3:List AV:=[.int .i64 0,.int .i64 0,.nils]
section
variable {h h' h0:AH} {F J F0 J0:Nat→Prop} {L:List Asn} {mb bb fb:Nat} {left:Int} {below:List FrD} {top:FrD}
theorem ct (f:FrD) (a:List AV) (s n g:AV) (ha:a.length=3):(cS f a s n g)[6]? =some s∧(cS f a s n g).length=10∧(cS f a s n g)[7]? =some n∧(cS f a s n g)[9]? =some g∧(cS f a s n g)[8]? =some (.bool f.asked)∧(cS f a s n g)[0]? =some (.int .i64 f.plugin)∧(cS f a s n g)[1]? =some (.int .i64 f.f)∧(cS f a s n g)[2]? =some (.int .i64 (f.pc:Int)):=by
 match a,ha with
 | [x,y,z],_=>exact⟨rfl,rfl,rfl,rfl,rfl,rfl,rfl,rfl⟩
theorem oS {f:FrD} {a:List AV} {s n g:AV} (ha:a.length=3∧a.all AV.one=true) (hs:s.one=true) (hn:n.one=true) (hg:g.one=true):(cS f a s n g).all AV.one=true:=by
 simp only[cS,List.all_append,ha.2,hs,hn,hg,List.all_cons,List.all_nil,Bool.and_true]
 rfl
theorem yk (f:FrD) (a:List AV) (s n g s':AV) (st:List VD) (ha:a.length=3):(cS f a s n g).set 6 s'=cS {f with stack:=st} a s' n g:=by
 match a,ha with
 | [x,y,z],_=>rfl
theorem oN {α:Type} {A B:List α} {x:α} {k:Nat} (hk:A.length=k):(A++x::B)[k]? =some x:=Df A B x hk.symm
theorem Ek {α:Type} {A B:List α} {x y:α} {k:Nat} (hk:A.length=k):(A++x::B).set k y=A++y::B:=xi A B x y hk.symm
theorem Lf (s0:St h0 F0 J0 h L) (i:Nat) (hi:L[i]? =some (eG mb bb fb left below top)) {v:VD} {r:List AV} (hv:VaA v r) (hb:below.length≤1000) (hst:top.stack.length≤1000000):
  ∃ h',aj Try.prog po fPu [.ptr mb 0 0,.agg r] h=some (.inl (.tup []),h')∧St h0 F0 J0 h' (L.set i (eG mb bb fb left below {top with stack:=top.stack++[v]})):=by
 refine s0.call (R:=fun h'=>aj Try.prog po fPu [.ptr mb 0 0,.agg r] h=some (.inl (.tup []),h')) i hi fun F J x=> ?_
 obtain⟨rs,ex,a,sv,nv,g,hrl,ha,hg,s⟩:=iZ x
 have s2:=(s.grew (af.push h [r])).grew (af.push (h.push [r]) [r])
 have hz:((h.push [r]).push [r]).cell (h.n+1)=some [r]:=aC
 obtain⟨h3,e3,s3⟩:=s2.app 2 rfl hz hv hst
 have q0:=s.cell 0 rfl
 have q1:=s.cell 1 rfl
 have q3:=(s3.cell 1 rfl).1
 have g6:=ct top a sv nv g ha.len3.1
 have run:=LO (s':= .msl ((h.push [r]).push [r]).n 0 (top.stack.length+1) tV) hb hv.len3 q0.2 q1.2 q0.1 q1.1 (oN hrl) g6.1 g6.2.1 e3 q3 rfl rfl
 rw[yk _ _ _ _ _ _ (top.stack++[v]) ha.len3.1,Ek hrl]at run
 have s4:=s3.set 1 rfl [rs++cS {top with stack:=top.stack++[v]} a (.msl ((h.push [r]).push [r]).n 0 (top.stack.length+1) tV) nv g::ex].flatten
 exact⟨_,run,mq (top:={top with stack:=top.stack++[v]}) ha hg (by simpa using s4)⟩
theorem mi {h2:AH} {rs ex:List (List AV)} {row row':List AV} {k j:Nat} {v:AV} (hc:h2.cell fb=some (rs++row::ex)) (hk:rs.length=k) (h1:v.one=true) (hv:v.cells=[v]) (hj:j<row.length) (hr:row.set j v=row'):aJ 1 h2 (.ptr fb k j) v=some (h2.set fb (some (rs++row'::ex))):=by
 rw[bp hc (oN hk) (by rw[hv];simpa using h1) (by rw[hv];rfl) (by omega),Ek hk,hv]
 have:stA row j [v]=row':=by
  rw[←hr]
  unfold stA
  refine List.ext_getElem? fun i=> ?_
  have:=iL row [v] j i (by simp only[List.length_singleton];omega)
  unfold stA at this
  rw[this]
  by_cases e:i=j
  ·subst e
   simp[hj]
  ·rw[if_neg (by simp only[List.length_singleton];omega),List.getElem?_set_ne (by omega)]
 rw[this]
theorem lC {h2:AH} {rs ex:List (List AV)} {row:List AV} {k j n:Nat} {v:AV} (hc:h2.cell fb=some (rs++row::ex)) (hk:rs.length=k) (hr:row[j]? =some v):aE false n h2 (.ptr fb k j)=some v:=by
 rw[bD,hc,Option.bind_some,oN hk,Option.bind_some,fL,hr]
theorem NO (s0:St h0 F0 J0 h L) (i:Nat) (hi:L[i]? =some (eG mb bb fb left below top)) {st:List VD} {v:VD} (hst:top.stack=st++[v]) (hb:below.length≤1000) (hl:st.length≤1000000):
  ∃ h',(∃ r,aj Try.prog po 83 [.ptr mb 0 0] h=some (.inl (.agg r),h')∧VaA v r)∧St h0 F0 J0 h' (L.set i (eG mb bb fb left below {top with stack:=st})):=by
 refine s0.call (R:=fun h'=>∃ r,aj Try.prog po 83 [.ptr mb 0 0] h=some (.inl (.agg r),h')∧VaA v r) i hi fun F J x=> ?_
 obtain⟨rs,ex,a,sv,nv,g,hrl,ha,hg,s⟩:=iZ x
 have s1:=s.push [zR3]
 obtain⟨F1,J1,x1⟩:=s1.get 3 rfl
 rw[hst]at x1
 have hlen:(st++[v]).length=st.length+1:=by simp
 obtain⟨b,hsv⟩:=Aa x1 (by simp)
 rw[hlen]at hsv
 subst hsv
 have rd:=gL x1
 obtain⟨p,r,p1,p2,p3⟩:=rd.2.2.2.2 .i64 st.length v (by simp)
 have g6:=ct top a (.msl b 0 (st.length+1) tV) nv g ha.len3.1
 have w:IntKind.wrap .i64 (((st.length+1:Nat):Int) - 1)=(st.length:Int):=Ci (by omega) (by omega) (by omega)
 have sl:=xX (e:=tV) (b:=b) (n:=st.length+1) (m:=st.length) (by omega)
 have tp:=q8 (s1.cell 1 rfl).1 hb
 have l1:=fun n=>lC (n:=n) (s1.cell 2 rfl).1 hrl g6.1
 have s2:=s1.push [zR3]
 have s3:=s1.push [r]
 have l3:=fun n=>lC (n:=n) (s3.cell 3 rfl).1 hrl g6.1
 have st4:=mi (v:= .msl b 0 st.length tV) (s3.cell 3 rfl).1 hrl rfl rfl (by rw[g6.2.1];decide) (yk _ _ _ _ _ _ st ha.len3.1)
 have s4:=s3.set 3 rfl (rs++cS {top with stack:=st} a (.msl b 0 st.length tV) nv g::ex)
 have c1:=(s2.cell 0 rfl).1
 have c4:=(s4.cell 0 rfl).1
 have c5:=(s4.cell 1 rfl).1
 have s5:=s4.set 1 rfl [r]
 have c6:=(s5.cell 1 rfl).1
 have fd:aI 6 (.ptr fb below.length 0)=some (.ptr fb below.length 6):=rfl
 have s6:St h F J _ (IE mb bb fb left below {top with stack:=st} rs ex a (.msl b 0 st.length tV) nv g):=s5.drop.drop.upd 2 rfl fun _ _ _ x=>by rw[hst]at x;exact Ai x
 refine⟨_,⟨r,?_,p3⟩,mq (top:={top with stack:=st}) ha hg s6⟩
 simp only[aM,eh]at c1 c4 c5 c6 st4 l3
 refine ah KV rfl ?_;unfold Ej
 simp only[sim,ag,reduceAdd,reduceSub,replicate,reduceCtorEq,reduceLeDiff,reduceLT,aa,az,tp,l1,p1,p2,w,sl,p3.len3.1,p3.len3.2,c1,l3,st4,c4,c5,c6,oU,oH,fd]
end
def CU:List RS:=[(.ops [(.i (.v 4) (.mv (.c (.int .i64 0))))]),(.ops [(.i .l (.mv (.v 0))),(.i .l (.mv (.v 0))),(.i .l (.nilc (.l 0))),(.i .l (.fad 0 (.l 0))),(.i .l (.load false 1 (.l 0))),(.i .l (.mv (.v 1))),(.i .l (.mv (.v 2))),(.i .l (.mv (.v 3))),(.i .l (.build [(.int .i64 0),(.int .i64 0),(.int .i64 0)] [(0,1),(1,1),(2,1)] [(0,(.l 2)),(1,(.l 1)),(2,(.l 0))])),(.i .l (.bsl true 169 [(.int .i64 0),(.int .i64 0),(.int .i64 0)] 3 1 [(0,(.l 0))])),(.i .l (.app true 169 (.l 5) (.l 0))),(.i .l (.nilc (.l 10))),(.i .l (.fad 0 (.l 0))),(.i .n (.store 1 (.l 0) (.l 2)))]),(.ops [(.i .l (.mv (.v 0))),(.i .l (.nilc (.l 0))),(.i .l (.fad 0 (.l 0))),(.i .l (.load false 1 (.l 0))),(.i .l (.len false (some 169) (.l 0))),(.i .l (.bin (.int .i64) .sub (.l 0) (.c (.int .i64 1)))),(.i (.v 4) (.mv (.l 0)))]),.ret]
theorem Kr:FnR Try.prog po 72 4 5 [0,1,2,3,8] CU [(.v 4)] false:=⟨_,_,Try.func72,rfl,rfl,by kernel_rfl,by kernel_rfl,by kernel_rfl,by kernel_rfl,by kernel_rfl⟩
def zW:List RS:=[(.ops [(.i .l (.mv (.v 0))),(.i .l (.nilc (.l 0))),(.i .l (.fad 0 (.l 0))),(.i .l (.load false 1 (.l 0))),(.i .l (.mv (.v 1))),(.i .l (.mv (.v 0))),(.i .l (.nilc (.l 0))),(.i .l (.fad 0 (.l 0))),(.i .l (.load false 1 (.l 0))),(.i .l (.len false (some 169) (.l 0))),(.i .l (.ixa (some 169) none (.l 6) (.l 5))),(.i .l (.fad 1 (.l 0))),(.i .n (.store 1 (.l 0) (.l 2)))])]
theorem IW:FnR Try.prog po 99 2 2 [0,1] zW [] false:=⟨_,_,Try.func99,rfl,rfl,by kernel_rfl,by kernel_rfl,by kernel_rfl,by kernel_rfl,by kernel_rfl⟩
def lL:List RS:=[(.ops [(.i (.v 10) (.bin (.int .i64) .lss (.v 9) (.v 8)))]),(.cond (.v 10) [] [(.exit 1)]),(.block 2 [(.ops [(.i .l (.ixa (some 46) none (.v 7) (.v 9))),(.i .l (.load true 4 (.l 0))),(.i (.v 5) (.alloc [(.int .i64 0),(.int .i64 0),(.int .i64 0),.nils])),(.i .n (.store 4 (.v 5) (.l 0)))]),(.ops [(.i .l (.mv (.v 0))),(.i .l (.load true 4 (.v 5))),(.i .l (.call (.c (.fn 71 [] [])) [(.l 1),(.l 0)]))])]),(.ops [(.i .l (.bin (.int .i64) .add (.v 9) (.c (.int .i64 1)))),(.i (.v 9) (.mv (.l 0)))])]
def nU:List RS:=[(.ops [(.i (.v 2) (.box 4 (.v 1)))]),(.ops [(.i .l (.mv (.v 0))),(.i .l (.call (.c (.fn 72 [] [])) [(.l 0),(.c (.int .i64 100)),(.c (.int .i64 0)),(.c (.int .i64 0))]))]),(.ops [(.i .l (.fad 0 (.v 2))),(.i (.v 6) (.load false 1 (.l 0)))]),(.block 0 [(.ops [(.i .l (.bin (.int .i64) .eql (.v 6) (.c (.int .i64 5)))),(.i (.v 11) (.mv (.l 0)))]),(.cond (.v 11) [(.ops [(.i .l (.mv (.v 0))),(.i .l (.fad 3 (.v 2))),(.i .l (.load false 1 (.l 0))),(.i .l (.ixa (some 46) none (.l 0) (.c (.int .i64 0)))),(.i .l (.load true 4 (.l 0))),(.i .l (.call (.c (.fn 71 [] [])) [(.l 4),(.l 0)]))]),(.ops [(.i .l (.mv (.v 0))),(.i .l (.call (.c (.fn 72 [] [])) [(.l 0),(.c (.int .i64 101)),(.c (.int .i64 0)),(.c (.int .i64 0))]))]),(.ops [(.i .l (.mv (.v 0))),(.i .l (.fad 3 (.v 2))),(.i .l (.load false 1 (.l 0))),(.i .l (.ixa (some 46) none (.l 0) (.c (.int .i64 1)))),(.i .l (.load true 4 (.l 0))),(.i .l (.call (.c (.fn 71 [] [])) [(.l 4),(.l 0)]))]),(.ops [(.i .l (.mv (.v 0))),(.i .l (.call (.c (.fn 72 [] [])) [(.l 0),(.c (.int .i64 102)),(.c (.int .i64 0)),(.c (.int .i64 0))]))])] [(.ops [(.i .l (.bin (.int .i64) .eql (.v 6) (.c (.int .i64 7)))),(.i (.v 12) (.mv (.l 0)))]),(.cond (.v 12) [(.ops [(.i .l (.mv (.v 0))),(.i .l (.fad 3 (.v 2))),(.i .l (.load false 1 (.l 0))),(.i .l (.ixa (some 46) none (.l 0) (.c (.int .i64 0)))),(.i .l (.load true 4 (.l 0))),(.i .l (.call (.c (.fn 71 [] [])) [(.l 4),(.l 0)]))]),(.ops [(.i .l (.mv (.v 0))),(.i .l (.call (.c (.fn 72 [] [])) [(.l 0),(.c (.int .i64 103)),(.c (.int .i64 0)),(.c (.int .i64 0))])),(.i (.v 3) (.mv (.l 0)))]),(.ops [(.i .l (.mv (.v 0))),(.i .l (.fad 3 (.v 2))),(.i .l (.load false 1 (.l 0))),(.i .l (.ixa (some 46) none (.l 0) (.c (.int .i64 1)))),(.i .l (.load true 4 (.l 0))),(.i .l (.call (.c (.fn 71 [] [])) [(.l 4),(.l 0)]))]),(.ops [(.i .l (.mv (.v 0))),(.i .l (.call (.c (.fn 72 [] [])) [(.l 0),(.c (.int .i64 104)),(.c (.int .i64 0)),(.c (.int .i64 0))])),(.i (.v 4) (.mv (.l 0)))]),(.ops [(.i .l (.mv (.v 0))),(.i .l (.mv (.v 3))),(.i .l (.call (.c (.fn 99 [] [])) [(.l 1),(.l 0)]))]),(.ops [(.i .l (.mv (.v 0))),(.i .l (.fad 3 (.v 2))),(.i .l (.load false 1 (.l 0))),(.i .l (.ixa (some 46) none (.l 0) (.c (.int .i64 2)))),(.i .l (.load true 4 (.l 0))),(.i .l (.call (.c (.fn 71 [] [])) [(.l 4),(.l 0)]))]),(.ops [(.i .l (.mv (.v 0))),(.i .l (.mv (.v 4))),(.i .l (.call (.c (.fn 99 [] [])) [(.l 1),(.l 0)]))])] [(.ops [(.i .l (.fad 3 (.v 2))),(.i (.v 7) (.load false 1 (.l 0))),(.i (.v 8) (.len false (some 46) (.v 7))),(.i (.v 9) (.mv (.c (.int .i64 0))))]),(.block 1 [(.loop lL)]),(.ops [(.i .l (.mv (.v 0))),(.i .l (.fad 0 (.v 2))),(.i .l (.load false 1 (.l 0))),(.i .l (.fad 1 (.v 2))),(.i .l (.load false 1 (.l 0))),(.i .l (.fad 2 (.v 2))),(.i .l (.load false 1 (.l 0))),(.i .l (.call (.c (.fn 72 [] [])) [(.l 6),(.l 4),(.l 2),(.l 0)]))])])])])]
theorem rM:FnR Try.prog po 71 2 13 [0,1,3,4,5,7,11,13,14,15,16,31,49] nU [] false:=⟨_,_,Try.func71,rfl,rfl,by kernel_rfl,by kernel_rfl,by kernel_rfl,by kernel_rfl,by kernel_rfl⟩
def lu:List RS:=[(.ops [(.i (.v 12) (.bin (.int .i64) .lss (.v 11) (.v 10)))]),(.cond (.v 12) [] [(.exit 0)]),(.block 1 [(.ops [(.i .l (.ixa (some 46) none (.v 9) (.v 11))),(.i .l (.load true 4 (.l 0))),(.i (.v 6) (.alloc [(.int .i64 0),(.int .i64 0),(.int .i64 0),.nils])),(.i .n (.store 4 (.v 6) (.l 0)))]),(.ops [(.i .l (.build [.nils] [(0,1)] [])),(.i .l (.box 1 (.l 0))),(.i (.v 7) (.mv (.l 0)))]),(.ops [(.i .l (.mv (.v 7))),(.i .l (.load true 4 (.v 6))),(.i .l (.call (.c (.fn 71 [] [])) [(.l 1),(.l 0)]))]),(.ops [(.i .l (.mv (.v 7))),(.i .l (.call (.c (.fn 72 [] [])) [(.l 0),(.c (.int .i64 105)),(.c (.int .i64 0)),(.c (.int .i64 0))]))]),(.ops [(.i .l (.mv (.v 5))),(.i .l (.mv (.v 7))),(.i .l (.nilc (.l 0))),(.i .l (.fad 0 (.l 0))),(.i .l (.load false 1 (.l 0))),(.i .l (.bsl false 158 [.nils] 1 1 [(0,(.l 0))])),(.i .l (.app false 158 (.l 5) (.l 0))),(.i (.v 5) (.mv (.l 0)))])]),(.ops [(.i .l (.bin (.int .i64) .add (.v 11) (.c (.int .i64 1)))),(.i (.v 11) (.mv (.l 0)))])]
def oW:List RS:=[(.ops [(.i (.v 1) (.box 1 (.v 0))),(.i (.v 2) (.mv (.c .nils))),(.i (.v 3) (.alloc [(.int .i64 0),(.int .i64 0)]))]),(.ops [(.i .l (.load true 1 (.v 1))),(.i .l (.call (.c (.fn 70 [] [])) [(.l 0)])),(.i (.v 4) (.alloc [(.int .i64 0),(.int .i64 0)])),(.i .n (.store 2 (.v 4) (.l 0)))]),(.ops [(.i .l (.fad 0 (.v 4))),(.i .l (.load false 1 (.l 0))),(.i (.v 8) (.bin (.int .i64) .neq (.l 0) (.c (.int .i64 0))))]),(.cond (.v 8) [(.ops [(.i .l (.load true 2 (.v 4))),(.i (.v 2) (.mv (.c .nils))),(.i .n (.store 2 (.v 3) (.l 0)))]),.ret] []),(.ops [(.i (.v 5) (.mv (.c .nils)))]),(.ops [(.i .l (.fad 0 (.v 1))),(.i (.v 9) (.load false 1 (.l 0))),(.i (.v 10) (.len false (some 46) (.v 9))),(.i (.v 11) (.mv (.c (.int .i64 0))))]),(.block 0 [(.loop lu)]),(.ops [(.i .l (.mv (.v 5))),(.i .l (.build [(.int .i64 0),(.int .i64 0)] [(0,1),(1,1)] [])),(.i (.v 2) (.mv (.l 1))),(.i .n (.store 2 (.v 3) (.l 0)))]),.ret]
def uH:List RS:=[(.ops [(.i (.v 1) (.mv (.c (.int .i64 0))))]),(.ops [(.i .l (.mv (.v 0))),(.i .l (.bin (.int .i64) .lss (.l 0) (.c (.int .i64 1)))),(.i .l (.mv (.l 0))),(.g (.l 0) false .l (.mv (.v 0))),(.g (.l 1) false .l (.bin (.int .i64) .gtr (.l 0) (.c (.int .i64 21)))),(.i (.v 2) (.pick (.l 2) (.c (.bool true)) (.l 0)))]),(.cond (.v 2) [(.ops [(.i (.v 1) (.mv (.c (.int .i64 (-1)))))]),.ret] []),(.ops [(.i .l (.build [(.int .i64 0),(.int .i64 0),(.int .i64 0),(.int .i64 0),(.int .i64 0),(.int .i64 0),(.int .i64 0),(.int .i64 0),(.int .i64 0),(.int .i64 0),(.int .i64 0),(.int .i64 0),(.int .i64 0),(.int .i64 0),(.int .i64 0),(.int .i64 0),(.int .i64 0),(.int .i64 0),(.int .i64 0),(.int .i64 0),(.int .i64 0),(.int .i64 0)] [(0,1),(1,1),(2,1),(3,1),(4,1),(5,1),(6,1),(7,1),(8,1),(9,1),(10,1),(11,1),(12,1),(13,1),(14,1),(15,1),(16,1),(17,1),(18,1),(19,1),(20,1),(21,1)] [(0,(.c (.int .i64 0))),(1,(.c (.int .i64 0))),(2,(.c (.int .i64 0))),(3,(.c (.int .i64 0))),(4,(.c (.int .i64 0))),(5,(.c (.int .i64 2))),(6,(.c (.int .i64 2))),(7,(.c (.int .i64 3))),(8,(.c (.int .i64 2))),(9,(.c (.int .i64 1))),(10,(.c (.int .i64 1))),(11,(.c (.int .i64 1))),(12,(.c (.int .i64 1))),(13,(.c (.int .i64 1))),(14,(.c (.int .i64 2))),(15,(.c (.int .i64 1))),(16,(.c (.int .i64 1))),(17,(.c (.int .i64 1))),(18,(.c (.int .i64 1))),(19,(.c (.int .i64 2))),(20,(.c (.int .i64 1))),(21,(.c (.int .i64 0)))])),(.i .l (.mv (.v 0))),(.i .l (.ix false (some (22,(1,false))) (.l 1) (.l 0))),(.i (.v 1) (.mv (.l 0)))]),.ret]
theorem Fo:FnR Try.prog po 117 1 3 [0,2,8] uH [(.v 1)] true:=⟨_,_,Try.func117,rfl,rfl,by kernel_rfl,by kernel_rfl,by kernel_rfl,by kernel_rfl,by kernel_rfl⟩
def oY:List RS:=[(.ops [(.i .l (.mv (.v 1))),(.i .l (.mv (.l 0))),(.g (.l 0) true .l (.mv (.v 0))),(.g (.l 1) true .l (.nilc (.l 0))),(.g (.l 2) true .l (.fad 1 (.l 0))),(.g (.l 3) true .l (.load false 1 (.l 0))),(.g (.l 4) true .l (.bin (.int .i64) .eql (.l 0) (.c (.int .i64 0)))),(.i (.v 3) (.pick (.l 5) (.l 0) (.c (.bool false))))]),(.cond (.v 3) [(.ops [(.i .l (.mv (.v 0))),(.i .l (.mv (.v 2))),(.i .l (.nilc (.l 1))),(.i .l (.fad 1 (.l 0))),(.i .n (.store 1 (.l 0) (.l 2)))])] [])]
theorem ud:FnR Try.prog po 95 3 4 [0,1,2,13] oY [] false:=⟨_,_,Try.func95,rfl,rfl,by kernel_rfl,by kernel_rfl,by kernel_rfl,by kernel_rfl,by kernel_rfl⟩
def As:List RS:=[(.ops [(.i (.v 2) (.box 4 (.v 0))),(.i (.v 3) (.box 1 (.v 1))),(.i (.v 4) (.mv (.c (.bool false))))]),(.ops [(.i .l (.load false 1 (.v 3))),(.i .l (.bin (.int .i64) .geq (.l 0) (.c (.int .i64 0)))),(.i .l (.mv (.l 0))),(.g (.l 0) true .l (.fad 3 (.v 2))),(.g (.l 1) true .l (.load false 1 (.l 0))),(.g (.l 2) true .l (.mkf 116 [] [(.v 3)])),(.g (.l 3) true .l (.call (.c (.fn 115 [] [])) [(.l 1),(.l 0)])),(.g (.l 4) true .l (.un .not (.l 0))),(.i .l (.pick (.l 5) (.l 0) (.c (.bool false)))),(.i (.v 4) (.mv (.l 0)))]),.ret]
theorem Hi:FnR Try.prog po 96 2 5 [0,1,2,3,4] As [(.v 4)] true:=⟨_,_,Try.func96,rfl,rfl,by kernel_rfl,by kernel_rfl,by kernel_rfl,by kernel_rfl,by kernel_rfl⟩
def wu:List RS:=[(.ops [(.i (.v 2) (.box 4 (.v 0))),(.i (.v 3) (.mv (.c (.bool false))))]),(.ops [(.i .l (.load true 4 (.v 2))),(.i .l (.load false 1 (.v 1))),(.i .l (.bin (.int .i64) .sub (.l 0) (.c (.int .i64 1)))),(.i .l (.call (.c (.fn 96 [] [])) [(.l 2),(.l 0)])),(.i .l (.un .not (.l 0))),(.i (.v 3) (.mv (.l 0)))]),.ret]
theorem Eq:FnR Try.prog po 116 2 4 [0,1,2,3] wu [(.v 3)] true:=⟨_,_,Try.func116,rfl,rfl,by kernel_rfl,by kernel_rfl,by kernel_rfl,by kernel_rfl,by kernel_rfl⟩
def oQ:List RS:=[(.ops [(.i (.v 2) (.mv (.c (.bool false))))]),(.ops [(.i .l (.mv (.v 0))),(.i .l (.mv (.v 1))),(.i .l (.call (.c (.fn 129 [] [])) [(.l 1),(.l 0)])),(.i .l (.bin (.int .i64) .geq (.l 0) (.c (.int .i64 0)))),(.i (.v 2) (.mv (.l 0)))]),.ret]
theorem wD:FnR Try.prog po 115 2 3 [0,1,4] oQ [(.v 2)] true:=⟨_,_,Try.func115,rfl,rfl,by kernel_rfl,by kernel_rfl,by kernel_rfl,by kernel_rfl,by kernel_rfl⟩
def fY:List RS:=[(.ops [(.i (.v 6) (.bin (.int .i64) .lss (.v 5) (.v 4)))]),(.cond (.v 6) [] [(.exit 0)]),(.block 1 [(.ops [(.i .l (.mv (.v 5))),(.i (.v 3) (.mv (.l 0)))]),(.ops [(.i .l (.mv (.v 1))),(.i .l (.mv (.v 0))),(.i .l (.mv (.v 3))),(.i .l (.ixa (some 46) none (.l 1) (.l 0))),(.i .l (.load true 4 (.l 0))),(.i (.v 7) (.call (.l 4) [(.l 0)]))]),(.cond (.v 7) [(.ops [(.i .l (.mv (.v 3))),(.i (.v 2) (.mv (.l 0)))]),.ret] [])]),(.ops [(.i .l (.bin (.int .i64) .add (.v 5) (.c (.int .i64 1)))),(.i (.v 5) (.mv (.l 0)))])]
def vL:List RS:=[(.ops [(.i (.v 2) (.mv (.c (.int .i64 0))))]),(.ops [(.i .l (.mv (.v 0))),(.i (.v 4) (.len false (some 46) (.l 0))),(.i (.v 5) (.mv (.c (.int .i64 0))))]),(.block 0 [(.loop fY)]),(.ops [(.i (.v 2) (.mv (.c (.int .i64 (-1)))))]),.ret]
theorem EA:FnR Try.prog po 129 2 8 [0,1,4,5,7,8,9,16] vL [(.v 2)] true:=⟨_,_,Try.func129,rfl,rfl,by kernel_rfl,by kernel_rfl,by kernel_rfl,by kernel_rfl,by kernel_rfl⟩
def iS:List RS:=[(.ops [(.i .l (.mv (.v 4))),(.i .l (.fad 3 (.v 2))),(.i .l (.load false 1 (.l 0))),(.i .l (.len false (some 46) (.l 0))),(.i .l (.bin (.int .i64) .lss (.l 3) (.l 0))),(.i .l (.mv (.l 0))),(.g (.l 0) true .l (.mv (.v 1))),(.g (.l 1) true .l (.bin (.int .i64) .geq (.l 0) (.c (.int .i64 0)))),(.i (.v 5) (.pick (.l 2) (.l 0) (.c (.bool false))))]),(.cond (.v 5) [] [(.exit 0)]),(.block 1 [(.ops [(.i .l (.fad 3 (.v 2))),(.i .l (.load false 1 (.l 0))),(.i .l (.mv (.v 4))),(.i .l (.ixa (some 46) none (.l 1) (.l 0))),(.i .l (.load true 4 (.l 0))),(.i .l (.mv (.v 1))),(.i .l (.call (.c (.fn 97 [] [])) [(.l 1),(.l 0)])),(.i (.v 1) (.mv (.l 0)))])]),(.ops [(.i .l (.mv (.v 4))),(.i .l (.bin (.int .i64) .add (.l 0) (.c (.int .i64 1)))),(.i (.v 4) (.mv (.l 0)))])]
def vO:List RS:=[(.ops [(.i (.v 2) (.box 4 (.v 0))),(.i (.v 3) (.mv (.c (.int .i64 0))))]),(.ops [(.i .l (.mv (.v 1))),(.i .l (.bin (.int .i64) .sub (.l 0) (.c (.int .i64 1)))),(.i (.v 1) (.mv (.l 0)))]),(.ops [(.i (.v 4) (.mv (.c (.int .i64 0))))]),(.block 0 [(.loop iS)]),(.ops [(.i .l (.mv (.v 1))),(.i (.v 3) (.mv (.l 0)))]),.ret]
theorem Ex:FnR Try.prog po 97 2 6 [0,1,2,4,5,16] vO [(.v 3)] true:=⟨_,_,Try.func97,rfl,rfl,by kernel_rfl,by kernel_rfl,by kernel_rfl,by kernel_rfl,by kernel_rfl⟩
def qg:List RS:=[(.ops [(.i (.v 3) (.box 4 (.v 1)))]),(.ops [(.i .l (.mv (.v 0))),(.i .l (.fad 2 (.v 3))),(.i .l (.load false 1 (.l 0))),(.i .l (.bin (.int .i64) .neq (.l 0) (.c (.int .i64 0)))),(.i .l (.mv (.l 0))),(.g (.l 0) true .l (.fad 0 (.v 3))),(.g (.l 1) true .l (.load false 1 (.l 0))),(.g (.l 2) true .l (.bin (.int .i64) .neq (.l 0) (.c (.int .i64 2)))),(.i .l (.pick (.l 3) (.l 0) (.c (.bool false)))),(.i .l (.call (.c (.fn 95 [] [])) [(.l 8),(.l 0),(.c (.int .i64 5))]))]),(.ops [(.i .l (.fad 0 (.v 3))),(.i (.v 4) (.load false 1 (.l 0)))]),(.block 0 [(.ops [(.i .l (.bin (.int .i64) .eql (.v 4) (.c (.int .i64 4)))),(.i (.v 5) (.mv (.l 0)))]),(.cond (.v 5) [(.ops [(.i .l (.mv (.v 0))),(.i .l (.fad 1 (.v 3))),(.i .l (.load false 1 (.l 0))),(.i .l (.bin (.int .i64) .lss (.l 0) (.c (.int .i64 0)))),(.i .l (.mv (.l 0))),(.g (.l 0) false .l (.fad 1 (.v 3))),(.g (.l 1) false .l (.load false 1 (.l 0))),(.g (.l 2) false .l (.mv (.v 2))),(.g (.l 3) false .l (.bin (.int .i64) .geq (.l 1) (.l 0))),(.i .l (.pick (.l 4) (.c (.bool true)) (.l 0))),(.i .l (.call (.c (.fn 95 [] [])) [(.l 9),(.l 0),(.c (.int .i64 1))]))])] [(.ops [(.i .l (.bin (.int .i64) .eql (.v 4) (.c (.int .i64 6)))),(.i (.v 6) (.mv (.l 0)))]),(.cond (.v 6) [(.ops [(.i .l (.mv (.v 0))),(.i .l (.fad 1 (.v 3))),(.i .l (.load false 1 (.l 0))),(.i .l (.bin (.int .i64) .lss (.l 0) (.c (.int .i64 1)))),(.i .l (.mv (.l 0))),(.g (.l 0) false .l (.fad 1 (.v 3))),(.g (.l 1) false .l (.load false 1 (.l 0))),(.g (.l 2) false .l (.bin (.int .i64) .gtr (.l 0) (.c (.int .i64 5)))),(.i .l (.pick (.l 3) (.c (.bool true)) (.l 0))),(.i .l (.call (.c (.fn 95 [] [])) [(.l 8),(.l 0),(.c (.int .i64 1))]))])] [(.ops [(.i .l (.bin (.int .i64) .eql (.v 4) (.c (.int .i64 15)))),(.i (.v 7) (.mv (.l 0)))]),(.cond (.v 7) [(.ops [(.i .l (.mv (.v 0))),(.i .l (.fad 1 (.v 3))),(.i .l (.load false 1 (.l 0))),(.i .l (.call (.c (.fn 112 [] [])) [(.l 0)])),(.i .l (.un .not (.l 0))),(.i .l (.call (.c (.fn 95 [] [])) [(.l 4),(.l 0),(.c (.int .i64 1))]))])] [(.ops [(.i .l (.bin (.int .i64) .eql (.v 4) (.c (.int .i64 18)))),(.i (.v 8) (.mv (.l 0)))]),(.cond (.v 8) [(.ops [(.i .l (.mv (.v 0))),(.i .l (.fad 1 (.v 3))),(.i .l (.load false 1 (.l 0))),(.i .l (.bin (.int .i64) .lss (.l 0) (.c (.int .i64 0)))),(.i .l (.mv (.l 0))),(.g (.l 0) false .l (.fad 1 (.v 3))),(.g (.l 1) false .l (.load false 1 (.l 0))),(.g (.l 2) false .l (.mv (.v 0))),(.g (.l 3) false .l (.nilc (.l 0))),(.g (.l 4) false .l (.fad 0 (.l 0))),(.g (.l 5) false .l (.fad 0 (.l 0))),(.g (.l 6) false .l (.load false 1 (.l 0))),(.g (.l 7) false .l (.len false (some 46) (.l 0))),(.g (.l 8) false .l (.bin (.int .i64) .geq (.l 6) (.l 0))),(.i .l (.pick (.l 9) (.c (.bool true)) (.l 0))),(.i .l (.call (.c (.fn 95 [] [])) [(.l 14),(.l 0),(.c (.int .i64 1))]))])] [(.ops [(.i .l (.mv (.v 0))),(.i .l (.fad 1 (.v 3))),(.i .l (.load false 1 (.l 0))),(.i .l (.bin (.int .i64) .neq (.l 0) (.c (.int .i64 0)))),(.i .l (.call (.c (.fn 95 [] [])) [(.l 3),(.l 0),(.c (.int .i64 5))]))])])])])])])]
theorem zw:FnR Try.prog po 118 3 9 [0,1,2,4,17,23,36,48,56] qg [] false:=⟨_,_,Try.func118,rfl,rfl,by kernel_rfl,by kernel_rfl,by kernel_rfl,by kernel_rfl,by kernel_rfl⟩
def fP:List RS:=[(.ops [(.i (.v 10) (.bin (.int .i64) .lss (.v 9) (.v 8)))]),(.cond (.v 10) [] [(.exit 0)]),(.block 1 [(.ops [(.i .l (.mv (.v 9))),(.i .l (.ixa (some 46) none (.v 7) (.v 9))),(.i .l (.load true 4 (.l 0))),(.i (.v 6) (.alloc [(.int .i64 0),(.int .i64 0),(.int .i64 0),.nils])),(.i (.v 5) (.mv (.l 2))),(.i .n (.store 4 (.v 6) (.l 0)))]),(.ops [(.i .l (.mv (.v 0))),(.i .l (.nilc (.l 0))),(.i .l (.fad 1 (.l 0))),(.i .l (.load false 1 (.l 0))),(.i (.v 11) (.bin (.int .i64) .neq (.l 0) (.c (.int .i64 0))))]),(.cond (.v 11) [.ret] []),(.ops [(.i .l (.fad 0 (.v 3))),(.i .l (.load false 1 (.l 0))),(.i .l (.bin (.int .i64) .eql (.l 0) (.c (.int .i64 5)))),(.i .l (.mv (.l 0))),(.g (.l 0) true .l (.mv (.v 5))),(.g (.l 1) true .l (.bin (.int .i64) .eql (.l 0) (.c (.int .i64 1)))),(.i (.v 12) (.pick (.l 2) (.l 0) (.c (.bool false))))]),(.cond (.v 12) [(.ops [(.i .l (.mv (.v 0))),(.i .l (.load true 4 (.v 6))),(.i .l (.mv (.v 2))),(.i .l (.bin (.int .i64) .add (.l 0) (.c (.int .i64 1)))),(.i .l (.call (.c (.fn 98 [] [])) [(.l 3),(.l 2),(.l 0)]))])] [(.ops [(.i .l (.mv (.v 0))),(.i .l (.load true 4 (.v 6))),(.i .l (.mv (.v 2))),(.i .l (.call (.c (.fn 98 [] [])) [(.l 2),(.l 1),(.l 0)]))])])]),(.ops [(.i .l (.bin (.int .i64) .add (.v 9) (.c (.int .i64 1)))),(.i (.v 9) (.mv (.l 0)))])]
def yT:List RS:=[(.ops [(.i (.v 3) (.box 4 (.v 1)))]),(.ops [(.i .l (.fad 0 (.v 3))),(.i .l (.load false 1 (.l 0))),(.i .l (.call (.c (.fn 117 [] [])) [(.l 0)])),(.i (.v 4) (.mv (.l 0)))]),(.ops [(.i .l (.mv (.v 0))),(.i .l (.mv (.v 4))),(.i .l (.bin (.int .i64) .lss (.l 0) (.c (.int .i64 0)))),(.i .l (.call (.c (.fn 95 [] [])) [(.l 2),(.l 0),(.c (.int .i64 2))]))]),(.ops [(.i .l (.mv (.v 0))),(.i .l (.fad 3 (.v 3))),(.i .l (.load false 1 (.l 0))),(.i .l (.len false (some 46) (.l 0))),(.i .l (.mv (.v 4))),(.i .l (.bin (.int .i64) .neq (.l 1) (.l 0))),(.i .l (.call (.c (.fn 95 [] [])) [(.l 5),(.l 0),(.c (.int .i64 5))]))]),(.ops [(.i .l (.mv (.v 0))),(.i .l (.load true 4 (.v 3))),(.i .l (.mv (.v 2))),(.i .l (.call (.c (.fn 118 [] [])) [(.l 2),(.l 1),(.l 0)]))]),(.ops [(.i .l (.mv (.v 0))),(.i .l (.fad 0 (.v 3))),(.i .l (.load false 1 (.l 0))),(.i .l (.bin (.int .i64) .eql (.l 0) (.c (.int .i64 5)))),(.i .l (.mv (.l 0))),(.g (.l 0) true .l (.mv (.v 2))),(.g (.l 1) true .l (.bin (.int .i64) .eql (.l 0) (.c (.int .i64 12)))),(.i .l (.pick (.l 2) (.l 0) (.c (.bool false)))),(.i .l (.call (.c (.fn 95 [] [])) [(.l 7),(.l 0),(.c (.int .i64 3))]))]),(.ops [(.i .l (.fad 3 (.v 3))),(.i (.v 7) (.load false 1 (.l 0))),(.i (.v 8) (.len false (some 46) (.v 7))),(.i (.v 9) (.mv (.c (.int .i64 0))))]),(.block 0 [(.loop fP)])]
theorem Gq:FnR Try.prog po 98 3 13 [0,1,2,4,6,7,8,37,38,39,40,48,55] yT [] false:=⟨_,_,Try.func98,rfl,rfl,by kernel_rfl,by kernel_rfl,by kernel_rfl,by kernel_rfl,by kernel_rfl⟩
def iU:List RS:=[(.ops [(.i (.v 10) (.bin (.int .i64) .lss (.v 9) (.v 8)))]),(.cond (.v 10) [] [(.exit 0)]),(.block 1 [(.ops [(.i .l (.mv (.v 9))),(.i .l (.ixa (some 46) none (.v 7) (.v 9))),(.i .l (.load true 4 (.l 0))),(.i (.v 4) (.alloc [(.int .i64 0),(.int .i64 0),(.int .i64 0),.nils])),(.i (.v 3) (.mv (.l 2))),(.i .n (.store 4 (.v 4) (.l 0)))]),(.ops [(.i .l (.load true 1 (.v 1))),(.i .l (.build [.nils,(.int .i64 0)] [(0,1),(1,1)] [(0,(.l 0))])),(.i .l (.box 2 (.l 0))),(.i (.v 5) (.mv (.l 0)))]),(.ops [(.i .l (.mv (.v 5))),(.i .l (.load true 4 (.v 4))),(.i .l (.call (.c (.fn 96 [] [])) [(.l 0),(.c (.int .i64 30))])),(.i .l (.un .not (.l 0))),(.i .l (.call (.c (.fn 95 [] [])) [(.l 3),(.l 0),(.c (.int .i64 4))]))]),(.ops [(.i .l (.mv (.v 5))),(.i .l (.mv (.v 5))),(.i .l (.nilc (.l 0))),(.i .l (.fad 1 (.l 0))),(.i .l (.load false 1 (.l 0))),(.i .l (.bin (.int .i64) .eql (.l 0) (.c (.int .i64 0)))),(.i .l (.mv (.l 0))),(.g (.l 0) true .l (.load true 4 (.v 4))),(.g (.l 1) true .l (.call (.c (.fn 97 [] [])) [(.l 0),(.c (.int .i64 120))])),(.g (.l 2) true .l (.bin (.int .i64) .lss (.l 0) (.c (.int .i64 0)))),(.i .l (.pick (.l 3) (.l 0) (.c (.bool false)))),(.i .l (.call (.c (.fn 95 [] [])) [(.l 10),(.l 0),(.c (.int .i64 3))]))]),(.ops [(.i .l (.mv (.v 5))),(.i .l (.nilc (.l 0))),(.i .l (.fad 1 (.l 0))),(.i .l (.load false 1 (.l 0))),(.i (.v 11) (.bin (.int .i64) .eql (.l 0) (.c (.int .i64 0))))]),(.cond (.v 11) [(.ops [(.i .l (.mv (.v 5))),(.i .l (.load true 4 (.v 4))),(.i .l (.call (.c (.fn 98 [] [])) [(.l 1),(.l 0),(.c (.int .i64 0))]))])] []),(.ops [(.i .l (.mv (.v 5))),(.i .l (.nilc (.l 0))),(.i .l (.fad 1 (.l 0))),(.i .l (.load false 1 (.l 0))),(.i (.v 12) (.bin (.int .i64) .neq (.l 0) (.c (.int .i64 0))))]),(.cond (.v 12) [(.ops [(.i .l (.mv (.v 5))),(.i .l (.nilc (.l 0))),(.i .l (.fad 1 (.l 0))),(.i .l (.load false 1 (.l 0))),(.i .l (.mv (.v 3))),(.i .l (.build [(.int .i64 0),(.int .i64 0)] [(0,1),(1,1)] [(0,(.l 1)),(1,(.l 0))])),(.i .n (.store 2 (.v 2) (.l 0)))]),.ret] [])]),(.ops [(.i .l (.bin (.int .i64) .add (.v 9) (.c (.int .i64 1)))),(.i (.v 9) (.mv (.l 0)))])]
def uF:List RS:=[(.ops [(.i (.v 1) (.box 1 (.v 0))),(.i (.v 2) (.alloc [(.int .i64 0),(.int .i64 0)]))]),(.ops [(.i .l (.fad 0 (.v 1))),(.i .l (.load false 1 (.l 0))),(.i .l (.len false (some 46) (.l 0))),(.i .l (.bin (.int .i64) .eql (.l 0) (.c (.int .i64 0)))),(.i .l (.mv (.l 0))),(.g (.l 0) false .l (.fad 0 (.v 1))),(.g (.l 1) false .l (.load false 1 (.l 0))),(.g (.l 2) false .l (.len false (some 46) (.l 0))),(.g (.l 3) false .l (.bin (.int .i64) .gtr (.l 0) (.c (.int .i64 6)))),(.i (.v 6) (.pick (.l 4) (.c (.bool true)) (.l 0)))]),(.cond (.v 6) [(.ops [(.i .l (.build [(.int .i64 0),(.int .i64 0)] [(0,1),(1,1)] [(0,(.c (.int .i64 3))),(1,(.c (.int .i64 (-1))))])),(.i .n (.store 2 (.v 2) (.l 0)))]),.ret] []),(.ops [(.i .l (.fad 0 (.v 1))),(.i (.v 7) (.load false 1 (.l 0))),(.i (.v 8) (.len false (some 46) (.v 7))),(.i (.v 9) (.mv (.c (.int .i64 0))))]),(.block 0 [(.loop iU)]),(.ops [(.i .l (.build [(.int .i64 0),(.int .i64 0)] [(0,1),(1,1)] [])),(.i .n (.store 2 (.v 2) (.l 0)))]),.ret]
theorem EO:FnR Try.prog po 70 1 13 [0,1,2,3,4,5,15,18,19,20,21,49,57] uF [(.cell true 2 2)] true:=⟨_,_,Try.func70,rfl,rfl,by kernel_rfl,by kernel_rfl,by kernel_rfl,by kernel_rfl,by kernel_rfl⟩
def M1:List RS:=[(.ops [(.i (.v 2) (.alloc [(.int .i64 0),(.int .i64 0)]))]),(.ops [(.i .l (.mv (.v 0))),(.i .l (.mv (.v 1))),(.i .l (.build [(.int .i64 0),(.int .i64 0)] [(0,1),(1,1)] [(0,(.l 1)),(1,(.l 0))])),(.i .n (.store 2 (.v 2) (.l 0)))]),.ret]
theorem Pl:FnR Try.prog po 100 2 3 [0,1,4] M1 [(.cell true 2 2)] true:=⟨_,_,Try.func100,rfl,rfl,by kernel_rfl,by kernel_rfl,by kernel_rfl,by kernel_rfl,by kernel_rfl⟩
def sf:List RS:=[(.ops [(.i (.v 1) (.mv (.c (.int .i64 0))))]),(.ops [(.i (.v 2) (.mv (.v 0)))]),(.block 0 [(.ops [(.i .l (.bin (.int .i64) .eql (.v 2) (.c (.int .i64 1)))),(.i (.v 3) (.mv (.l 0)))]),(.cond (.v 3) [] [(.ops [(.i .l (.bin (.int .i64) .eql (.v 2) (.c (.int .i64 2)))),(.i (.v 3) (.mv (.l 0)))]),(.cond (.v 3) [] [(.ops [(.i .l (.bin (.int .i64) .eql (.v 2) (.c (.int .i64 3)))),(.i (.v 3) (.mv (.l 0)))]),(.cond (.v 3) [] [(.ops [(.i .l (.bin (.int .i64) .eql (.v 2) (.c (.int .i64 4)))),(.i (.v 3) (.mv (.l 0)))]),(.cond (.v 3) [] [(.ops [(.i .l (.bin (.int .i64) .eql (.v 2) (.c (.int .i64 21)))),(.i (.v 3) (.mv (.l 0)))])])])])]),(.cond (.v 3) [(.ops [(.i (.v 1) (.mv (.c (.int .i64 0))))]),.ret] [(.ops [(.i .l (.bin (.int .i64) .eql (.v 2) (.c (.int .i64 9)))),(.i (.v 4) (.mv (.l 0)))]),(.cond (.v 4) [] [(.ops [(.i .l (.bin (.int .i64) .eql (.v 2) (.c (.int .i64 10)))),(.i (.v 4) (.mv (.l 0)))]),(.cond (.v 4) [] [(.ops [(.i .l (.bin (.int .i64) .eql (.v 2) (.c (.int .i64 11)))),(.i (.v 4) (.mv (.l 0)))]),(.cond (.v 4) [] [(.ops [(.i .l (.bin (.int .i64) .eql (.v 2) (.c (.int .i64 12)))),(.i (.v 4) (.mv (.l 0)))]),(.cond (.v 4) [] [(.ops [(.i .l (.bin (.int .i64) .eql (.v 2) (.c (.int .i64 13)))),(.i (.v 4) (.mv (.l 0)))]),(.cond (.v 4) [] [(.ops [(.i .l (.bin (.int .i64) .eql (.v 2) (.c (.int .i64 15)))),(.i (.v 4) (.mv (.l 0)))]),(.cond (.v 4) [] [(.ops [(.i .l (.bin (.int .i64) .eql (.v 2) (.c (.int .i64 16)))),(.i (.v 4) (.mv (.l 0)))]),(.cond (.v 4) [] [(.ops [(.i .l (.bin (.int .i64) .eql (.v 2) (.c (.int .i64 17)))),(.i (.v 4) (.mv (.l 0)))]),(.cond (.v 4) [] [(.ops [(.i .l (.bin (.int .i64) .eql (.v 2) (.c (.int .i64 18)))),(.i (.v 4) (.mv (.l 0)))]),(.cond (.v 4) [] [(.ops [(.i .l (.bin (.int .i64) .eql (.v 2) (.c (.int .i64 20)))),(.i (.v 4) (.mv (.l 0)))])])])])])])])])])]),(.cond (.v 4) [(.ops [(.i (.v 1) (.mv (.c (.int .i64 1))))]),.ret] [(.ops [(.i .l (.bin (.int .i64) .eql (.v 2) (.c (.int .i64 5)))),(.i (.v 5) (.mv (.l 0)))]),(.cond (.v 5) [] [(.ops [(.i .l (.bin (.int .i64) .eql (.v 2) (.c (.int .i64 6)))),(.i (.v 5) (.mv (.l 0)))]),(.cond (.v 5) [] [(.ops [(.i .l (.bin (.int .i64) .eql (.v 2) (.c (.int .i64 8)))),(.i (.v 5) (.mv (.l 0)))]),(.cond (.v 5) [] [(.ops [(.i .l (.bin (.int .i64) .eql (.v 2) (.c (.int .i64 14)))),(.i (.v 5) (.mv (.l 0)))]),(.cond (.v 5) [] [(.ops [(.i .l (.bin (.int .i64) .eql (.v 2) (.c (.int .i64 19)))),(.i (.v 5) (.mv (.l 0)))])])])])]),(.cond (.v 5) [(.ops [(.i (.v 1) (.mv (.c (.int .i64 2))))]),.ret] [(.ops [(.i .l (.bin (.int .i64) .eql (.v 2) (.c (.int .i64 7)))),(.i (.v 6) (.mv (.l 0)))]),(.cond (.v 6) [(.ops [(.i (.v 1) (.mv (.c (.int .i64 3))))]),.ret] [])])])])]),(.ops [(.i (.v 1) (.mv (.c (.int .i64 (-1)))))]),.ret]
theorem BR:FnR Try.prog po 119 1 7 [0,2,3,4,10,21,27] sf [(.v 1)] true:=⟨_,_,Try.func119,rfl,rfl,by kernel_rfl,by kernel_rfl,by kernel_rfl,by kernel_rfl,by kernel_rfl⟩
def iB:List RS:=[(.ops [(.i .l (.mv (.v 5))),(.i .l (.fad 3 (.v 2))),(.i .l (.load false 1 (.l 0))),(.i .l (.len false (some 46) (.l 0))),(.i .l (.bin (.int .i64) .lss (.l 3) (.l 0))),(.i .l (.mv (.l 0))),(.g (.l 0) true .l (.mv (.v 4))),(.g (.l 1) true .l (.mv (.v 1))),(.g (.l 2) true .l (.bin (.int .i64) .leq (.l 1) (.l 0))),(.i (.v 7) (.pick (.l 3) (.l 0) (.c (.bool false))))]),(.cond (.v 7) [] [(.exit 0)]),(.block 1 [(.ops [(.i (.v 6) (.mv (.c (.int .i64 1))))]),(.ops [(.i .l (.mv (.v 1))),(.i (.v 8) (.bin (.int .i64) .gtr (.l 0) (.c (.int .i64 0))))]),(.cond (.v 8) [(.ops [(.i .l (.fad 3 (.v 2))),(.i .l (.load false 1 (.l 0))),(.i .l (.mv (.v 5))),(.i .l (.ixa (some 46) none (.l 1) (.l 0))),(.i .l (.load true 4 (.l 0))),(.i .l (.mv (.v 1))),(.i .l (.bin (.int .i64) .sub (.l 0) (.c (.int .i64 1)))),(.i .l (.call (.c (.fn 101 [] [])) [(.l 2),(.l 0)])),(.i .l (.bin (.int .i64) .add (.c (.int .i64 1)) (.l 0))),(.i (.v 6) (.mv (.l 0)))])] []),(.ops [(.i .l (.mv (.v 6))),(.i .l (.mv (.v 4))),(.i (.v 9) (.bin (.int .i64) .gtr (.l 1) (.l 0)))]),(.cond (.v 9) [(.ops [(.i .l (.mv (.v 6))),(.i (.v 4) (.mv (.l 0)))])] [])]),(.ops [(.i .l (.mv (.v 5))),(.i .l (.bin (.int .i64) .add (.l 0) (.c (.int .i64 1)))),(.i (.v 5) (.mv (.l 0)))])]
def vz:List RS:=[(.ops [(.i (.v 2) (.box 4 (.v 0))),(.i (.v 3) (.mv (.c (.int .i64 0))))]),(.ops [(.i (.v 4) (.mv (.c (.int .i64 0))))]),(.ops [(.i (.v 5) (.mv (.c (.int .i64 0))))]),(.block 0 [(.loop iB)]),(.ops [(.i .l (.mv (.v 4))),(.i (.v 3) (.mv (.l 0)))]),.ret]
theorem FG:FnR Try.prog po 101 2 10 [0,1,2,4,5,6,7,17,21,33] vz [(.v 3)] true:=⟨_,_,Try.func101,rfl,rfl,by kernel_rfl,by kernel_rfl,by kernel_rfl,by kernel_rfl,by kernel_rfl⟩
def gV:List RS:=[(.ops [(.i .l (.mv (.v 5))),(.i .l (.fad 3 (.v 2))),(.i .l (.load false 1 (.l 0))),(.i .l (.len false (some 46) (.l 0))),(.i .l (.bin (.int .i64) .lss (.l 3) (.l 0))),(.i .l (.mv (.l 0))),(.g (.l 0) true .l (.mv (.v 4))),(.g (.l 1) true .l (.mv (.v 1))),(.g (.l 2) true .l (.bin (.int .i64) .leq (.l 1) (.l 0))),(.i (.v 6) (.pick (.l 3) (.l 0) (.c (.bool false))))]),(.cond (.v 6) [] [(.exit 0)]),(.block 1 [(.ops [(.i .l (.mv (.v 4))),(.i .l (.fad 3 (.v 2))),(.i .l (.load false 1 (.l 0))),(.i .l (.mv (.v 5))),(.i .l (.ixa (some 46) none (.l 1) (.l 0))),(.i .l (.load true 4 (.l 0))),(.i .l (.mv (.v 1))),(.i .l (.mv (.v 4))),(.i .l (.bin (.int .i64) .sub (.l 1) (.l 0))),(.i .l (.call (.c (.fn 60 [] [])) [(.l 3),(.l 0)])),(.i .l (.bin (.int .i64) .add (.l 9) (.l 0))),(.i (.v 4) (.mv (.l 0)))])]),(.ops [(.i .l (.mv (.v 5))),(.i .l (.bin (.int .i64) .add (.l 0) (.c (.int .i64 1)))),(.i (.v 5) (.mv (.l 0)))])]
def tr:List RS:=[(.ops [(.i (.v 2) (.box 4 (.v 0))),(.i (.v 3) (.mv (.c (.int .i64 0))))]),(.ops [(.i (.v 4) (.mv (.c (.int .i64 1))))]),(.ops [(.i (.v 5) (.mv (.c (.int .i64 0))))]),(.block 0 [(.loop gV)]),(.ops [(.i .l (.mv (.v 4))),(.i (.v 3) (.mv (.l 0)))]),.ret]
theorem AW:FnR Try.prog po 60 2 7 [0,1,2,4,5,6,16] tr [(.v 3)] true:=⟨_,_,Try.func60,rfl,rfl,by kernel_rfl,by kernel_rfl,by kernel_rfl,by kernel_rfl,by kernel_rfl⟩
def bX:List RS:=[(.ops [(.i .l (.mv (.v 9))),(.i .l (.mv (.v 6))),(.i (.v 22) (.bin (.int .i64) .lss (.l 1) (.l 0)))]),(.cond (.v 22) [] [(.exit 1)]),(.block 2 [(.ops [(.i .l (.mv (.v 2))),(.i (.v 10) (.mv (.l 0)))]),(.ops [(.i .l (.fad 0 (.v 4))),(.i .l (.load false 1 (.l 0))),(.i .l (.bin (.int .i64) .eql (.l 0) (.c (.int .i64 5)))),(.i .l (.mv (.l 0))),(.g (.l 0) true .l (.mv (.v 9))),(.g (.l 1) true .l (.bin (.int .i64) .eql (.l 0) (.c (.int .i64 1)))),(.i (.v 23) (.pick (.l 2) (.l 0) (.c (.bool false))))]),(.cond (.v 23) [(.ops [(.i .l (.mv (.v 10))),(.i .l (.bin (.int .i64) .add (.l 0) (.c (.int .i64 1)))),(.i (.v 10) (.mv (.l 0)))])] []),(.ops [(.i .l (.load true 1 (.v 3))),(.i .l (.fad 3 (.v 4))),(.i .l (.load false 1 (.l 0))),(.i .l (.mv (.v 9))),(.i .l (.ixa (some 46) none (.l 1) (.l 0))),(.i .l (.load true 4 (.l 0))),(.i .l (.mv (.v 10))),(.i .l (.call (.c (.fn 102 [] [])) [(.l 6),(.l 1),(.l 0)])),(.i (.v 11) (.mv (.l 0)))]),(.ops [(.i .l (.mv (.v 11))),(.i (.v 24) (.bin (.int .i64) .neq (.l 0) (.c (.int .i64 0))))]),(.cond (.v 24) [(.ops [(.i .l (.mv (.v 11))),(.i (.v 5) (.mv (.l 0)))]),.ret] [])]),(.ops [(.i .l (.mv (.v 9))),(.i .l (.bin (.int .i64) .add (.l 0) (.c (.int .i64 1)))),(.i (.v 9) (.mv (.l 0)))])]
def nY:List RS:=[(.ops [(.i (.v 3) (.box 1 (.v 0))),(.i (.v 4) (.box 4 (.v 1))),(.i (.v 5) (.mv (.c (.int .i64 0))))]),(.ops [(.i .l (.fad 0 (.v 4))),(.i .l (.load false 1 (.l 0))),(.i .l (.call (.c (.fn 119 [] [])) [(.l 0)])),(.i (.v 6) (.mv (.l 0)))]),(.ops [(.i .l (.mv (.v 6))),(.i (.v 12) (.bin (.int .i64) .lss (.l 0) (.c (.int .i64 0))))]),(.cond (.v 12) [(.ops [(.i (.v 5) (.mv (.c (.int .i64 2))))]),.ret] []),(.ops [(.i .l (.fad 3 (.v 4))),(.i .l (.load false 1 (.l 0))),(.i .l (.len false (some 46) (.l 0))),(.i .l (.mv (.v 6))),(.i .l (.bin (.int .i64) .neq (.l 1) (.l 0))),(.i .l (.mv (.l 0))),(.g (.l 0) false .l (.fad 2 (.v 4))),(.g (.l 1) false .l (.load false 1 (.l 0))),(.g (.l 2) false .l (.bin (.int .i64) .neq (.l 0) (.c (.int .i64 0)))),(.g (.l 3) false .l (.mv (.l 0))),(.g (.l 0) true .l (.fad 0 (.v 4))),(.g (.l 1) true .l (.load false 1 (.l 0))),(.g (.l 2) true .l (.bin (.int .i64) .neq (.l 0) (.c (.int .i64 2)))),(.g (.l 7) false .l (.pick (.l 3) (.l 0) (.c (.bool false)))),(.i (.v 13) (.pick (.l 8) (.c (.bool true)) (.l 0)))]),(.cond (.v 13) [(.ops [(.i (.v 5) (.mv (.c (.int .i64 5))))]),.ret] []),(.ops [(.i (.v 7) (.mv (.c (.int .i64 0)))),(.i (.v 8) (.mv (.c (.int .i64 0))))]),(.ops [(.i .l (.fad 0 (.v 4))),(.i (.v 14) (.load false 1 (.l 0)))]),(.block 0 [(.ops [(.i .l (.bin (.int .i64) .eql (.v 14) (.c (.int .i64 4)))),(.i (.v 16) (.mv (.l 0)))]),(.cond (.v 16) [(.ops [(.i .l (.mv (.v 2))),(.i .l (.bin (.int .i64) .sub (.l 0) (.c (.int .i64 1)))),(.i (.v 8) (.mv (.l 0)))])] [(.ops [(.i .l (.bin (.int .i64) .eql (.v 14) (.c (.int .i64 6)))),(.i (.v 17) (.mv (.l 0)))]),(.cond (.v 17) [(.ops [(.i (.v 7) (.mv (.c (.int .i64 1)))),(.i (.v 8) (.mv (.c (.int .i64 5))))])] [(.ops [(.i .l (.bin (.int .i64) .eql (.v 14) (.c (.int .i64 15)))),(.i (.v 18) (.mv (.l 0)))]),(.cond (.v 18) [(.ops [(.i (.v 8) (.mv (.c (.int .i64 15))))])] [(.ops [(.i .l (.bin (.int .i64) .eql (.v 14) (.c (.int .i64 18)))),(.i (.v 19) (.mv (.l 0)))]),(.cond (.v 19) [(.ops [(.i .l (.fad 0 (.v 3))),(.i .l (.load false 1 (.l 0))),(.i .l (.len false (some 46) (.l 0))),(.i .l (.bin (.int .i64) .sub (.l 0) (.c (.int .i64 1)))),(.i (.v 8) (.mv (.l 0)))])] [(.ops [(.i .l (.fad 1 (.v 4))),(.i .l (.load false 1 (.l 0))),(.i (.v 15) (.bin (.int .i64) .neq (.l 0) (.c (.int .i64 0))))]),(.cond (.v 15) [(.ops [(.i (.v 5) (.mv (.c (.int .i64 5))))]),.ret] [])])])])])]),(.ops [(.i .l (.fad 1 (.v 4))),(.i .l (.load false 1 (.l 0))),(.i .l (.mv (.v 7))),(.i .l (.bin (.int .i64) .lss (.l 1) (.l 0))),(.i .l (.mv (.l 0))),(.g (.l 0) false .l (.fad 1 (.v 4))),(.g (.l 1) false .l (.load false 1 (.l 0))),(.g (.l 2) false .l (.mv (.v 8))),(.g (.l 3) false .l (.bin (.int .i64) .gtr (.l 1) (.l 0))),(.i (.v 20) (.pick (.l 4) (.c (.bool true)) (.l 0)))]),(.cond (.v 20) [(.ops [(.i (.v 5) (.mv (.c (.int .i64 1))))]),.ret] []),(.ops [(.i .l (.fad 0 (.v 4))),(.i .l (.load false 1 (.l 0))),(.i .l (.bin (.int .i64) .eql (.l 0) (.c (.int .i64 5)))),(.i .l (.mv (.l 0))),(.g (.l 0) true .l (.mv (.v 2))),(.g (.l 1) true .l (.bin (.int .i64) .eql (.l 0) (.c (.int .i64 12)))),(.i (.v 21) (.pick (.l 2) (.l 0) (.c (.bool false))))]),(.cond (.v 21) [(.ops [(.i (.v 5) (.mv (.c (.int .i64 3))))]),.ret] []),(.ops [(.i (.v 9) (.mv (.c (.int .i64 0))))]),(.block 1 [(.loop bX)]),(.ops [(.i (.v 5) (.mv (.c (.int .i64 0))))]),.ret]
theorem xU:FnR Try.prog po 102 3 25 [0,1,2,3,4,6,7,8,9,10,11,12,17,32,34,37,38,42,44,46,61,68,71,81,93] nY [(.v 5)] true:=⟨_,_,Try.func102,rfl,rfl,by kernel_rfl,by kernel_rfl,by kernel_rfl,by kernel_rfl,by kernel_rfl⟩
def fH:List RS:=[(.ops [(.i .l (.mv (.v 3))),(.i .l (.fad 0 (.v 1))),(.i .l (.load false 1 (.l 0))),(.i .l (.len false (some 46) (.l 0))),(.i (.v 7) (.bin (.int .i64) .lss (.l 3) (.l 0)))]),(.cond (.v 7) [] [(.exit 0)]),(.block 1 [(.ops [(.i .l (.fad 0 (.v 1))),(.i .l (.load false 1 (.l 0))),(.i .l (.mv (.v 3))),(.i .l (.ixa (some 46) none (.l 1) (.l 0))),(.i .l (.load true 4 (.l 0))),(.i (.v 4) (.alloc [(.int .i64 0),(.int .i64 0),(.int .i64 0),.nils])),(.i .n (.store 4 (.v 4) (.l 0)))]),(.ops [(.i .l (.load true 4 (.v 4))),(.i .l (.call (.c (.fn 101 [] [])) [(.l 0),(.c (.int .i64 30))])),(.i (.v 8) (.bin (.int .i64) .gtr (.l 0) (.c (.int .i64 30))))]),(.cond (.v 8) [(.ops [(.i .l (.mv (.v 3))),(.i .l (.call (.c (.fn 100 [] [])) [(.c (.int .i64 4)),(.l 0)])),(.i .n (.store 2 (.v 2) (.l 0)))]),.ret] []),(.ops [(.i .l (.load true 4 (.v 4))),(.i .l (.call (.c (.fn 60 [] [])) [(.l 0),(.c (.int .i64 120))])),(.i (.v 9) (.bin (.int .i64) .gtr (.l 0) (.c (.int .i64 120))))]),(.cond (.v 9) [(.ops [(.i .l (.mv (.v 3))),(.i .l (.call (.c (.fn 100 [] [])) [(.c (.int .i64 3)),(.l 0)])),(.i .n (.store 2 (.v 2) (.l 0)))]),.ret] []),(.ops [(.i .l (.load true 1 (.v 1))),(.i .l (.load true 4 (.v 4))),(.i .l (.call (.c (.fn 102 [] [])) [(.l 1),(.l 0),(.c (.int .i64 0))])),(.i (.v 5) (.mv (.l 0)))]),(.ops [(.i .l (.mv (.v 5))),(.i (.v 10) (.bin (.int .i64) .neq (.l 0) (.c (.int .i64 0))))]),(.cond (.v 10) [(.ops [(.i .l (.mv (.v 5))),(.i .l (.mv (.v 3))),(.i .l (.call (.c (.fn 100 [] [])) [(.l 1),(.l 0)])),(.i .n (.store 2 (.v 2) (.l 0)))]),.ret] [])]),(.ops [(.i .l (.mv (.v 3))),(.i .l (.bin (.int .i64) .add (.l 0) (.c (.int .i64 1)))),(.i (.v 3) (.mv (.l 0)))])]
def oJ:List RS:=[(.ops [(.i (.v 1) (.box 1 (.v 0))),(.i (.v 2) (.alloc [(.int .i64 0),(.int .i64 0)]))]),(.ops [(.i .l (.fad 0 (.v 1))),(.i .l (.load false 1 (.l 0))),(.i .l (.len false (some 46) (.l 0))),(.i .l (.bin (.int .i64) .lss (.l 0) (.c (.int .i64 1)))),(.i .l (.mv (.l 0))),(.g (.l 0) false .l (.fad 0 (.v 1))),(.g (.l 1) false .l (.load false 1 (.l 0))),(.g (.l 2) false .l (.len false (some 46) (.l 0))),(.g (.l 3) false .l (.bin (.int .i64) .gtr (.l 0) (.c (.int .i64 6)))),(.i (.v 6) (.pick (.l 4) (.c (.bool true)) (.l 0)))]),(.cond (.v 6) [(.ops [(.i .l (.call (.c (.fn 100 [] [])) [(.c (.int .i64 3)),(.c (.int .i64 (-1)))])),(.i .n (.store 2 (.v 2) (.l 0)))]),.ret] []),(.ops [(.i (.v 3) (.mv (.c (.int .i64 0))))]),(.block 0 [(.loop fH)]),(.ops [(.i .l (.build [(.int .i64 0),(.int .i64 0)] [(0,1),(1,1)] [])),(.i .n (.store 2 (.v 2) (.l 0)))]),.ret]
theorem wN:FnR Try.prog po 73 1 11 [0,1,2,3,4,5,15,21,31,36,43] oJ [(.cell true 2 2)] true:=⟨_,_,Try.func73,rfl,rfl,by kernel_rfl,by kernel_rfl,by kernel_rfl,by kernel_rfl,by kernel_rfl⟩
def eB:List RS:=[(.ops [(.i .l (.mv (.v 3))),(.i .l (.fad 0 (.v 1))),(.i .l (.load false 1 (.l 0))),(.i .l (.len false (some 46) (.l 0))),(.i (.v 5) (.bin (.int .i64) .lss (.l 3) (.l 0)))]),(.cond (.v 5) [] [(.exit 0)]),(.block 1 [(.ops [(.i .l (.fad 0 (.v 1))),(.i .l (.load false 1 (.l 0))),(.i .l (.mv (.v 3))),(.i .l (.ixa (some 46) none (.l 1) (.l 0))),(.i .l (.load true 4 (.l 0))),(.i .l (.call (.c (.fn 60 [] [])) [(.l 0),(.c (.int .i64 600))])),(.i (.v 6) (.bin (.int .i64) .gtr (.l 0) (.c (.int .i64 600))))]),(.cond (.v 6) [(.ops [(.i (.v 2) (.mv (.c (.bool true))))]),.ret] [])]),(.ops [(.i .l (.mv (.v 3))),(.i .l (.bin (.int .i64) .add (.l 0) (.c (.int .i64 1)))),(.i (.v 3) (.mv (.l 0)))])]
def l8:List RS:=[(.ops [(.i (.v 1) (.box 1 (.v 0))),(.i (.v 2) (.mv (.c (.bool false))))]),(.ops [(.i .l (.fad 0 (.v 1))),(.i .l (.load false 1 (.l 0))),(.i .l (.len false (some 46) (.l 0))),(.i (.v 4) (.bin (.int .i64) .gtr (.l 0) (.c (.int .i64 20))))]),(.cond (.v 4) [(.ops [(.i (.v 2) (.mv (.c (.bool true))))]),.ret] []),(.ops [(.i (.v 3) (.mv (.c (.int .i64 0))))]),(.block 0 [(.loop eB)]),(.ops [(.i (.v 2) (.mv (.c (.bool false))))]),.ret]
theorem sJ:FnR Try.prog po 26 1 7 [0,1,2,3,7,12,21] l8 [(.v 2)] true:=⟨_,_,Try.func26,rfl,rfl,by kernel_rfl,by kernel_rfl,by kernel_rfl,by kernel_rfl,by kernel_rfl⟩
theorem ExL.len:∀ {l:List XD} {es:List (List AV)},ExL l es→es.length=l.length
 | [],es,h=>by
   simp only[ExL]at h
   subst h
   rfl
 | x::l,es,h=>by
   simp only[ExL]at h
   obtain⟨r,rs,rfl,_,h2⟩:=h
   simp[ExL.len h2]
theorem ExL.get:∀ {l:List XD} {es:List (List AV)} {i:Nat} {x:XD},ExL l es→l[i]? =some x→∃ r,es[i]? =some r∧ExA x r
 | [],es,i,x,h,hx=>by simp at hx
 | y::l,es,i,x,h,hx=>by
   simp only[ExL]at h
   obtain⟨r,rs,rfl,h1,h2⟩:=h
   cases i with
   | zero=>
     obtain rfl:y=x:=by simpa using hx
     exact⟨r,rfl,h1⟩
   | succ i=>simpa using ExL.get h2 (by simpa using hx)
theorem ExA.row {x:XD} {r:List AV} (h:ExA x r):∃ v es,r=[.int .i64 x.op,.int .i64 x.k,.int .i64 x.n,v]∧SlA tE v es∧ExL x.l es:=by
 cases x with
 | mk op k n l=>simp only[ExA]at h;exact h
theorem ExA.one {x:XD} {r:List AV} (h:ExA x r):r.all AV.one=true∧r.length=4:=by
 obtain⟨v,es,rfl,hv,_⟩:=h.row
 rcases hv with⟨_,rfl⟩ | ⟨id,rfl⟩<;>exact⟨rfl,rfl⟩
theorem ExA.facts {x:XD} {r:List AV} (h:ExA x r):∃ v es,r=[.int .i64 x.op,.int .i64 x.k,.int .i64 x.n,v]∧IsL tE v es∧v.one=true∧es.length=x.l.length∧
  ∀ (i:Nat) (y:XD),x.l[i]? =some y→∃ q,bT (some tE) none v (.int .i64 (i:Int))=some (.ip q 0)∧ldA true 4 q 0=some (.agg q)∧ExA y q:=by
 obtain⟨v,es,rfl,hv,hl⟩:=h.row
 refine⟨v,es,rfl,hv.isL,?_,hl.len,fun i y hy=> ?_⟩
 ·rcases hv with⟨_,rfl⟩ | ⟨id,rfl⟩<;>rfl
 ·obtain⟨q,h1,h2⟩:=hl.get hy
  exact⟨q,hv.isL.ix .i64 i q h1,bo h2.one.2,h2⟩
theorem Oq:nG Try.prog tE=some [3,3,2,44]:=by kernel_rfl
theorem PH:(Try.prog).underlying 3=some (.int .i64):=by kernel_rfl
theorem Og:(Try.prog).underlying 2=some (.int .i64):=by kernel_rfl
theorem HG:(Try.prog).underlying 44=some (.slice tE):=by kernel_rfl
theorem OQ:∀ (n:Nat) (r:List AV),TyA Try.prog n tE r→∃ x,ExA x r:=by
 intro n
 induction n using Nat.strongRecOn with
 | ind n ih=>
   intro r h
   obtain⟨m,rfl,parts,rfl,hl,hf⟩:=qa Oq h
   obtain⟨p0,a0,_,b0⟩:=hf 0 _ rfl
   obtain⟨p1,a1,_,b1⟩:=hf 1 _ rfl
   obtain⟨p2,a2,_,b2⟩:=hf 2 _ rfl
   obtain⟨p3,a3,_,b3⟩:=hf 3 _ rfl
   obtain⟨op,rfl,_⟩:=iY PH b0
   obtain⟨k,rfl,_⟩:=iY PH b1
   obtain⟨z,rfl,_⟩:=iY Og b2
   obtain⟨m',v,es,rfl,rfl,hv,_,hr⟩:=BE HG b3
   obtain⟨c0,c1,c2,c3,rfl⟩:=Pq hl
   simp only[List.getElem?_cons_zero,List.getElem?_cons_succ,Option.some.injEq]at a0 a1 a2 a3
   subst a0 a1 a2 a3
   have key:∀ es:List (List AV),(∀ r∈es,∃ x,ExA x r)→∃ l,ExL l es:=by
    intro es
    induction es with
    | nil=>intro _;exact⟨[],rfl⟩
    | cons r es ih2=>
      intro hh
      obtain⟨x,hx⟩:=hh r (by simp)
      obtain⟨l,hl⟩:=ih2 fun q hq=>hh q (by simp[hq])
      exact⟨x::l,by simp only[ExL];exact⟨r,es,rfl,hx,hl⟩⟩
   obtain⟨l,hl⟩:=key es fun r hr'=>ih m' (by omega) r (hr r hr').2
   exact⟨.mk op k z l,by simp only[ExA];exact⟨v,es,rfl,hv.sla,hl⟩⟩
def P0 (l:List XD) (r:List AV):Prop:=∃ v es,r=[v]∧SlA tE v es∧ExL l es
theorem PJ:nG Try.prog 48=some [44]:=by kernel_rfl
theorem Ot {n:Nat} {r:List AV} (h:TyA Try.prog n 48 r):∃ l,P0 l r:=by
 obtain⟨m,rfl,parts,rfl,hl,hf⟩:=qa PJ h
 obtain⟨p0,a0,_,b0⟩:=hf 0 _ rfl
 obtain⟨m',v,es,rfl,rfl,hv,_,hr⟩:=BE HG b0
 obtain⟨c0,rfl⟩:=O2 hl
 simp only[List.getElem?_cons_zero,Option.some.injEq]at a0
 subst a0
 have key:∀ es:List (List AV),(∀ r∈es,∃ x,ExA x r)→∃ l,ExL l es:=by
  intro es
  induction es with
  | nil=>intro _;exact⟨[],rfl⟩
  | cons r es ih2=>
    intro hh
    obtain⟨x,hx⟩:=hh r (by simp)
    obtain⟨l,hl⟩:=ih2 fun q hq=>hh q (by simp[hq])
    exact⟨x::l,by simp only[ExL];exact⟨r,es,rfl,hx,hl⟩⟩
 obtain⟨l,hl⟩:=key es fun r hr'=>OQ m' r (hr r hr').2
 exact⟨l,v,es,rfl,hv.sla,hl⟩
section
variable {h:AH}
theorem zg {op:Int} (h1:¬ op<1) (h2:¬ 21<op):op=1∨op=2∨op=3∨op=4∨op=5∨op=6∨op=7∨op=8∨op=9∨op=10∨op=11∨op=12∨op=13∨op=14∨op=15∨op=16∨op=17∨op=18∨op=19∨op=20∨op=21:=by omega
theorem K2 (op:Int):aj Try.prog po 117 [.int .i64 op] h=some (.inl (.int .i64 (aW op)),h):=by
 refine ah Fo rfl ?_;unfold uH
 by_cases h1:op<1
 ·have:aW op= -1:=by unfold aW;split<;>omega
  simp only[sim,ag,reduceAdd,reduceSub,replicate,reduceCtorEq,reduceLeDiff,reduceLT,aa,h1,this,aA (af.refl h) (rfl:wkA (.int .i64 (-1))=_)]
 ·by_cases h2:21<op
  ·have:aW op= -1:=by unfold aW;split<;>omega
   simp only[sim,ag,reduceAdd,reduceSub,replicate,reduceCtorEq,reduceLeDiff,reduceLT,aa,h1,h2,this,aA (af.refl h) (rfl:wkA (.int .i64 (-1))=_)]
  ·have hix:ixR false (some (22,(1,false))) (.agg [(.int .i64 0),(.int .i64 0),(.int .i64 0),(.int .i64 0),(.int .i64 0),(.int .i64 2),(.int .i64 2),(.int .i64 3),(.int .i64 2),(.int .i64 1),(.int .i64 1),(.int .i64 1),(.int .i64 1),(.int .i64 1),(.int .i64 2),(.int .i64 1),(.int .i64 1),(.int .i64 1),(.int .i64 1),(.int .i64 2),(.int .i64 1),(.int .i64 0)]) (.int .i64 op)=some (.int .i64 (aW op)):=by
    rcases zg h1 h2 with rfl | rfl | rfl | rfl | rfl | rfl | rfl | rfl | rfl | rfl | rfl | rfl | rfl | rfl | rfl | rfl | rfl | rfl | rfl | rfl | rfl<;>rfl
   simp only[sim,ag,reduceAdd,reduceSub,replicate,reduceCtorEq,reduceLeDiff,reduceLT,aa,h1,h2,hix]
end
section
variable {h:AH}
theorem xH (x:XD) (v:AV) (es:List (List AV)) (hl:IsL tE v es) (hn:es.length=x.l.length) (hv:v.one=true) (most:Int) (h0:0≤most) (hm:most≤100000)
  (hix:∀ (i:Nat) (y:XD),x.l[i]? =some y→∃ q,bT (some tE) none v (.int .i64 (i:Int))=some (.ip q 0)∧ldA true 4 q 0=some (.agg q)∧ExA y q)
  (hc:∀ y∈x.l,∀ (q:List AV) (h:AH) (m:Int),ExA y q→0≤m→m≤100000→aj Try.prog po 60 [.agg q,.int .i64 m] h=some (.inl (.int .i64 (min (y.size:Int) (m+1))),h))
  (v0 v3:AV) (K:List RK):∀ (l pre:List XD) (v6:AV),x.l=pre++l→
  ∃ w5 w6,aq (aj Try.prog po) 7 (.lp gV:: .ss []:: .blk 0::K) [v0,.int .i64 most,.ptr h.n 0 0,v3,.int .i64 (min (1+(aK pre:Int)) (most+1)),.int .i64 pre.length,v6] [] (h.push [[.int .i64 x.op,.int .i64 x.k,.int .i64 x.n,v]])=
    aq (aj Try.prog po) 7 K [v0,.int .i64 most,.ptr h.n 0 0,v3,.int .i64 (min (x.size:Int) (most+1)),w5,w6] [] (h.push [[.int .i64 x.op,.int .i64 x.k,.int .i64 x.n,v]]):=by
 intro l
 induction l with
 | nil=>
   intro pre v6 e
   have e':x.l=pre:=by simpa using e
   have hlt:¬ ((pre.length:Int)<(es.length:Int)):=by rw[hn,e'];omega
   refine⟨.int .i64 pre.length,.bool false,?_⟩
   rw[aB gV.eq_1]
   have es:(1+(aK pre:Int))=(x.size:Int):=by rw[x.size_eq,e'];omega
   simp only[sim,ag,reduceAdd,reduceSub,replicate,reduceCtorEq,reduceLeDiff,reduceLT,aa,hl.len,hl.fits,hlt,es]
 | cons y l ih=>
   intro pre v6 e
   have hlt:(pre.length:Int)<(es.length:Int):=by rw[hn,e];simp;omega
   obtain⟨q,i1,i2,i3⟩:=hix pre.length y (by rw[e];simp)
   have hsz:(x.size:Int)=1+(aK pre:Int)+(y.size:Int)+(aK l:Int):=by rw[x.size_eq,e,fu];simp[aK];omega
   have hyp:=y.size_pos
   have hlen:=x.len_size
   rw[aB gV.eq_1]
   by_cases hle:min (1+(aK pre:Int)) (most+1)≤most
   ·have hmin:min (1+(aK pre:Int)) (most+1)=1+(aK pre:Int):=by omega
    rw[hmin]at hle
    have hpl:(pre.length:Int)≤aK pre:=by
     have:∀ l:List XD,l.length≤aK l:=by
      intro l
      induction l with
      | nil=>simp
      | cons y l ih=>
        have:=y.size_pos
        simp only[aK,List.length_cons]
        omega
     have:=this pre
     omega
    have hw1:=w64 (n:=most - (1+(aK pre:Int))) (by omega) (by omega)
    have hw2:=w64 (n:=(1+(aK pre:Int))+min (y.size:Int) (most - (1+(aK pre:Int))+1)) (by omega) (by omega)
    have hw3:=w64 (n:=(pre.length:Int)+1) (by omega) (by omega)
    have cy:=hc y (by rw[e];simp) q (h.push [[.int .i64 x.op,.int .i64 x.k,.int .i64 x.n,v]]) (most - (1+(aK pre:Int))) i3 (by omega) (by omega)
    obtain⟨w5,w6,r1⟩:=ih (pre++[y]) (.bool true) (by simp[e])
    have e2:((pre++[y]).length:Int)=(pre.length:Int)+1:=by simp
    have e3:min (1+(aK (pre++[y]):Int)) (most+1)=(1+(aK pre:Int))+min (y.size:Int) (most - (1+(aK pre:Int))+1):=by
     rw[fu,ti]
     omega
    rw[e2,e3]at r1
    refine⟨w5,w6,?_⟩
    simp only[sim,ag,reduceAdd,reduceSub,replicate,reduceCtorEq,reduceLeDiff,reduceLT,aa,hl.len,hl.fits,hlt,hmin,hle,i1,i2,hw1,cy,hw2,hw3]
    exact r1
   ·have hmin:min (1+(aK pre:Int)) (most+1)=most+1:=by omega
    have hmin2:min (x.size:Int) (most+1)=most+1:=by omega
    have hgt:¬ (most+1≤most):=by omega
    refine⟨.int .i64 pre.length,.bool false,?_⟩
    simp only[sim,ag,reduceAdd,reduceSub,replicate,reduceCtorEq,reduceLeDiff,reduceLT,aa,hl.len,hl.fits,hlt,hmin,hmin2,hgt]
theorem qr:∀ (N:Nat) (x:XD),SizeOf.sizeOf x≤N→∀ (r:List AV) (h:AH) (most:Int),ExA x r→0≤most→most≤100000→
  aj Try.prog po 60 [.agg r,.int .i64 most] h=some (.inl (.int .i64 (min (x.size:Int) (most+1))),h):=by
 intro N
 induction N with
 | zero=>intro x hx;have:=x.so_pos;omega
 | succ N ih=>
   intro x hx r h most he h0 hm
   obtain⟨v,es,rfl,hl,hv,hn,hix⟩:=he.facts
   obtain⟨w5,w6,r1⟩:=xH (h:=h) x v es hl hn hv most h0 hm hix (fun y hy q h m hq=>ih y (by have:=XD.lt_mem hy;omega) q h m hq) (.agg [.int .i64 x.op,.int .i64 x.k,.int .i64 x.n,v]) (.int .i64 0) [.ss [.ops [(.i .l (.mv (.v 4))),(.i (.v 3) (.mv (.l 0)))],.ret]] x.l [] .junk rfl
   have em:min (1+(aK []:Int)) (most+1)=1:=by simp only[aK];omega
   rw[em]at r1
   simp only[List.length_nil,Int.natCast_zero]at r1
   refine ah AW rfl ?_;unfold tr
   simp only[sim,ag,reduceAdd,reduceSub,replicate,reduceCtorEq,reduceLeDiff,reduceLT,aa,hv,r1,aA (af.push h _) (rfl:wkA (.int .i64 (min (x.size:Int) (most+1)))=_)]
theorem yB (x:XD) (v:AV) (es:List (List AV)) (hl:IsL tE v es) (hn:es.length=x.l.length) (hv:v.one=true) (most:Int) (h0:0≤most) (hm:most≤100000) (hf:x.l.length≤100000)
  (hix:∀ (i:Nat) (y:XD),x.l[i]? =some y→∃ q,bT (some tE) none v (.int .i64 (i:Int))=some (.ip q 0)∧ldA true 4 q 0=some (.agg q)∧ExA y q)
  (hc:∀ y∈x.l,∀ (q:List AV) (h:AH) (m:Int),ExA y q→0≤m→m≤100000→aj Try.prog po 101 [.agg q,.int .i64 m] h=some (.inl (.int .i64 (min (y.depth:Int) (m+1))),h))
  (v0 v3:AV) (K:List RK):∀ (l pre:List XD) (v6 v7 v8 v9:AV),x.l=pre++l→
  ∃ w5 w6 w7 w8 w9,aq (aj Try.prog po) 10 (.lp iB:: .ss []:: .blk 0::K) [v0,.int .i64 most,.ptr h.n 0 0,v3,.int .i64 (min (bh pre:Int) (most+1)),.int .i64 pre.length,v6,v7,v8,v9] [] (h.push [[.int .i64 x.op,.int .i64 x.k,.int .i64 x.n,v]])=
    aq (aj Try.prog po) 10 K [v0,.int .i64 most,.ptr h.n 0 0,v3,.int .i64 (min (x.depth:Int) (most+1)),w5,w6,w7,w8,w9] [] (h.push [[.int .i64 x.op,.int .i64 x.k,.int .i64 x.n,v]]):=by
 intro l
 induction l with
 | nil=>
   intro pre v6 v7 v8 v9 e
   have e':x.l=pre:=by simpa using e
   have hlt:¬ ((pre.length:Int)<(es.length:Int)):=by rw[hn,e'];omega
   refine⟨.int .i64 pre.length,v6,.bool false,v8,v9,?_⟩
   rw[aB iB.eq_1]
   have es:bh pre=x.depth:=by rw[x.depth_eq,e']
   simp only[sim,ag,reduceAdd,reduceSub,replicate,reduceCtorEq,reduceLeDiff,reduceLT,aa,hl.len,hl.fits,hlt,es]
 | cons y l ih=>
   intro pre v6 v7 v8 v9 e
   have hlt:(pre.length:Int)<(es.length:Int):=by rw[hn,e];simp;omega
   obtain⟨q,i1,i2,i3⟩:=hix pre.length y (by rw[e];simp)
   have hdx:x.depth=max (bh pre) (max (1+y.depth) (bh l)):=by rw[x.depth_eq,e,jo];simp[bh]
   have hpl:pre.length≤100000:=by rw[e]at hf;simp at hf;omega
   have hw3:=w64 (n:=(pre.length:Int)+1) (by omega) (by omega)
   rw[aB iB.eq_1]
   by_cases hle:min (bh pre:Int) (most+1)≤most
   ·have hmin:min (bh pre:Int) (most+1)=(bh pre:Int):=by omega
    rw[hmin]at hle
    obtain⟨w5,w6,w7,w8,w9,r1⟩:=ih (pre++[y]) (.int .i64 (1+min (y.depth:Int) most)) (.bool true) (.bool (decide (0<most))) (.bool (decide ((bh pre:Int)<1+min (y.depth:Int) most))) (by simp[e])
    have e2:((pre++[y]).length:Int)=(pre.length:Int)+1:=by simp
    have e3:min (bh (pre++[y]):Int) (most+1)=max (bh pre:Int) (1+min (y.depth:Int) most):=by
     rw[jo,zP]
     omega
    rw[e2,e3]at r1
    have hw2:=w64 (n:=1+min (y.depth:Int) most) (by omega) (by omega)
    refine⟨w5,w6,w7,w8,w9,?_⟩
    by_cases hp:0<most
    ·have hw1:=w64 (n:=most - 1) (by omega) (by omega)
     have cy:=hc y (by rw[e];simp) q (h.push [[.int .i64 x.op,.int .i64 x.k,.int .i64 x.n,v]]) (most - 1) i3 (by omega) (by omega)
     rw[show most - 1+1=most by omega]at cy
     by_cases hb:(bh pre:Int)<1+min (y.depth:Int) most
     ·have e4:max (bh pre:Int) (1+min (y.depth:Int) most)=1+min (y.depth:Int) most:=by omega
      simp only[hp,hb,e4,decide_true]at r1
      simp only[sim,ag,reduceAdd,reduceSub,replicate,reduceCtorEq,reduceLeDiff,reduceLT,aa,hl.len,hl.fits,hlt,hmin,hle,hp,i1,i2,hw1,cy,hw2,hb,hw3]
      exact r1
     ·have e4:max (bh pre:Int) (1+min (y.depth:Int) most)=(bh pre:Int):=by omega
      simp only[hp,hb,e4,decide_true,decide_false]at r1
      simp only[sim,ag,reduceAdd,reduceSub,replicate,reduceCtorEq,reduceLeDiff,reduceLT,aa,hl.len,hl.fits,hlt,hmin,hle,hp,i1,i2,hw1,cy,hw2,hb,hw3]
      exact r1
    ·have hz:min (y.depth:Int) most=0:=by omega
     rw[hz]at r1
     simp only[Int.add_zero]at r1
     by_cases hb:(bh pre:Int)<1
     ·have e4:max (bh pre:Int) 1=1:=by omega
      simp only[hp,hb,e4,decide_true,decide_false]at r1
      simp only[sim,ag,reduceAdd,reduceSub,replicate,reduceCtorEq,reduceLeDiff,reduceLT,aa,hl.len,hl.fits,hlt,hmin,hle,hp,hb,hw3]
      exact r1
     ·have e4:max (bh pre:Int) 1=(bh pre:Int):=by omega
      simp only[hp,hb,e4,decide_false]at r1
      simp only[sim,ag,reduceAdd,reduceSub,replicate,reduceCtorEq,reduceLeDiff,reduceLT,aa,hl.len,hl.fits,hlt,hmin,hle,hp,hb,hw3]
      exact r1
   ·have hmin:min (bh pre:Int) (most+1)=most+1:=by omega
    have hmin2:min (x.depth:Int) (most+1)=most+1:=by omega
    have hgt:¬ (most+1≤most):=by omega
    refine⟨.int .i64 pre.length,v6,.bool false,v8,v9,?_⟩
    simp only[sim,ag,reduceAdd,reduceSub,replicate,reduceCtorEq,reduceLeDiff,reduceLT,aa,hl.len,hl.fits,hlt,hmin,hmin2,hgt]
theorem XD.size_mem {x y:XD} (h:y∈x.l):y.size<x.size:=by
 have:∀ l:List XD,y∈l→y.size≤aK l:=by
  intro l
  induction l with
  | nil=>intro hm;simp at hm
  | cons z l ih=>
    intro hm
    simp only[aK]
    rcases List.mem_cons.1 hm with rfl | hm
    ·omega
    ·have:=ih hm;omega
 have:=this x.l h
 rw[x.size_eq]
 omega
theorem Cz:∀ (N:Nat) (x:XD),SizeOf.sizeOf x≤N→x.size≤100000→∀ (r:List AV) (h:AH) (most:Int),ExA x r→0≤most→most≤100000→
  aj Try.prog po 101 [.agg r,.int .i64 most] h=some (.inl (.int .i64 (min (x.depth:Int) (most+1))),h):=by
 intro N
 induction N with
 | zero=>intro x hx;have:=x.so_pos;omega
 | succ N ih=>
   intro x hx hsz r h most he h0 hm
   obtain⟨v,es,rfl,hl,hv,hn,hix⟩:=he.facts
   have hlen:=x.len_size
   obtain⟨w5,w6,w7,w8,w9,r1⟩:=yB (h:=h) x v es hl hn hv most h0 hm (by omega) hix (fun y hy q h m hq=>ih y (by have:=XD.lt_mem hy;omega) (by have:=XD.size_mem hy;omega) q h m hq) (.agg [.int .i64 x.op,.int .i64 x.k,.int .i64 x.n,v]) (.int .i64 0) [.ss [.ops [(.i .l (.mv (.v 4))),(.i (.v 3) (.mv (.l 0)))],.ret]] x.l [] .junk .junk .junk .junk rfl
   have em:min (bh []:Int) (most+1)=0:=by simp only[bh];omega
   rw[em]at r1
   simp only[List.length_nil,Int.natCast_zero]at r1
   refine ah FG rfl ?_;unfold vz
   simp only[sim,ag,reduceAdd,reduceSub,replicate,reduceCtorEq,reduceLeDiff,reduceLT,aa,hv,r1,aA (af.push h _) (rfl:wkA (.int .i64 (min (x.depth:Int) (most+1)))=_)]
theorem yh (x:XD) (v:AV) (es:List (List AV)) (hl:IsL tE v es) (hn:es.length=x.l.length) (hv:v.one=true) (c:Int) (h0:0≤c) (hm:c≤100000)
  (hix:∀ (i:Nat) (y:XD),x.l[i]? =some y→∃ q,bT (some tE) none v (.int .i64 (i:Int))=some (.ip q 0)∧ldA true 4 q 0=some (.agg q)∧ExA y q)
  (hc:∀ y∈x.l,∀ (q:List AV) (h:AH) (m:Int),ExA y q→0≤m→m≤100000→aj Try.prog po 97 [.agg q,.int .i64 m] h=some (.inl (.int .i64 (max (m - y.size) (-1))),h))
  (v0 v3:AV) (K:List RK):∀ (l pre:List XD) (v5:AV),x.l=pre++l→
  ∃ w4 w5,aq (aj Try.prog po) 6 (.lp iS:: .ss []:: .blk 0::K) [v0,.int .i64 (max (c - 1 - aK pre) (-1)),.ptr h.n 0 0,v3,.int .i64 pre.length,v5] [] (h.push [[.int .i64 x.op,.int .i64 x.k,.int .i64 x.n,v]])=
    aq (aj Try.prog po) 6 K [v0,.int .i64 (max (c - x.size) (-1)),.ptr h.n 0 0,v3,w4,w5] [] (h.push [[.int .i64 x.op,.int .i64 x.k,.int .i64 x.n,v]]):=by
 intro l
 induction l with
 | nil=>
   intro pre v5 e
   have e':x.l=pre:=by simpa using e
   have hlt:¬ ((pre.length:Int)<(es.length:Int)):=by rw[hn,e'];omega
   refine⟨.int .i64 pre.length,.bool false,?_⟩
   rw[aB iS.eq_1]
   have es:c - 1 - (aK pre:Int)=c - x.size:=by rw[x.size_eq,e'];omega
   simp only[sim,ag,reduceAdd,reduceSub,replicate,reduceCtorEq,reduceLeDiff,reduceLT,aa,hl.len,hl.fits,hlt,es]
 | cons y l ih=>
   intro pre v5 e
   have hlt:(pre.length:Int)<(es.length:Int):=by rw[hn,e];simp;omega
   obtain⟨q,i1,i2,i3⟩:=hix pre.length y (by rw[e];simp)
   have hsz:(x.size:Int)=1+(aK pre:Int)+(y.size:Int)+(aK l:Int):=by rw[x.size_eq,e,fu];simp[aK];omega
   have hyp:=y.size_pos
   rw[aB iS.eq_1]
   by_cases hle:0≤max (c - 1 - (aK pre:Int)) (-1)
   ·have hmin:max (c - 1 - (aK pre:Int)) (-1)=c - 1 - (aK pre:Int):=by omega
    rw[hmin]at hle
    have hpl:(pre.length:Int)≤aK pre:=by
     have:∀ l:List XD,l.length≤aK l:=by
      intro l
      induction l with
      | nil=>simp
      | cons y l ih=>
        have:=y.size_pos
        simp only[aK,List.length_cons]
        omega
     have:=this pre
     omega
    have hw3:=w64 (n:=(pre.length:Int)+1) (by omega) (by omega)
    have cy:=hc y (by rw[e];simp) q (h.push [[.int .i64 x.op,.int .i64 x.k,.int .i64 x.n,v]]) (c - 1 - (aK pre:Int)) i3 (by omega) (by omega)
    obtain⟨w4,w5,r1⟩:=ih (pre++[y]) (.bool true) (by simp[e])
    have e2:((pre++[y]).length:Int)=(pre.length:Int)+1:=by simp
    have e3:max (c - 1 - (aK (pre++[y]):Int)) (-1)=max (c - 1 - (aK pre:Int) - (y.size:Int)) (-1):=by
     rw[fu,ti]
     omega
    rw[e2,e3]at r1
    refine⟨w4,w5,?_⟩
    simp only[sim,ag,reduceAdd,reduceSub,replicate,reduceCtorEq,reduceLeDiff,reduceLT,aa,hl.len,hl.fits,hlt,hmin,hle,i1,i2,cy,hw3]
    exact r1
   ·have hmin:max (c - 1 - (aK pre:Int)) (-1)= -1:=by omega
    have hmin2:max (c - (x.size:Int)) (-1)= -1:=by omega
    have hgt:¬ ((0:Int)≤ -1):=by omega
    refine⟨.int .i64 pre.length,.bool false,?_⟩
    simp only[sim,ag,reduceAdd,reduceSub,replicate,reduceCtorEq,reduceLeDiff,reduceLT,aa,hl.len,hl.fits,hlt,hmin,hmin2,hgt]
theorem Cx:∀ (N:Nat) (x:XD),SizeOf.sizeOf x≤N→∀ (r:List AV) (h:AH) (c:Int),ExA x r→0≤c→c≤100000→
  aj Try.prog po 97 [.agg r,.int .i64 c] h=some (.inl (.int .i64 (max (c - x.size) (-1))),h):=by
 intro N
 induction N with
 | zero=>intro x hx;have:=x.so_pos;omega
 | succ N ih=>
   intro x hx r h c he h0 hm
   obtain⟨v,es,rfl,hl,hv,hn,hix⟩:=he.facts
   obtain⟨w4,w5,r1⟩:=yh (h:=h) x v es hl hn hv c h0 hm hix (fun y hy q h m hq=>ih y (by have:=XD.lt_mem hy;omega) q h m hq) (.agg [.int .i64 x.op,.int .i64 x.k,.int .i64 x.n,v]) (.int .i64 0) [.ss [.ops [(.i .l (.mv (.v 1))),(.i (.v 3) (.mv (.l 0)))],.ret]] x.l [] .junk rfl
   have em:max (c - 1 - (aK []:Int)) (-1)=c - 1:=by simp only[aK];omega
   rw[em]at r1
   simp only[List.length_nil,Int.natCast_zero]at r1
   have hw:=w64 (n:=c - 1) (by omega) (by omega)
   refine ah Ex rfl ?_;unfold vO
   simp only[sim,ag,reduceAdd,reduceSub,replicate,reduceCtorEq,reduceLeDiff,reduceLT,aa,hv,hw,r1,aA (af.push h _) (rfl:wkA (.int .i64 (max (c - x.size) (-1)))=_)]
end
structure gC (h:AH) (v:AV) (l:List XD):Prop where
 len:dR v=some l.length
 fits:∀ s,de s (some tE) v=true
 one:v.one=true
 ix:∀ (i:Nat) (y:XD),l[i]? =some y→∃ a q,bT (some tE) none v (.int .i64 (i:Int))=some a∧(∀ h',af h h'→aE true 4 h' a=some (.agg q))∧ExA y q
theorem gC.of {h:AH} {v:AV} {es:List (List AV)} {l:List XD} (hv:SlA tE v es) (hl:ExL l es):gC h v l:=by
 refine⟨?_,hv.isL.fits,?_,fun i y hy=> ?_⟩
 ·rw[←hl.len];exact hv.isL.len
 ·rcases hv with⟨_,rfl⟩ | ⟨id,rfl⟩<;>rfl
 ·obtain⟨q,h1,h2⟩:=hl.get hy
  exact⟨.ip q 0,q,hv.isL.ix .i64 i q h1,fun h' _=>bo h2.one.2,h2⟩
section
variable {h:AH}
theorem FP (op:Int):aj Try.prog po 119 [.int .i64 op] h=some (.inl (.int .i64 (aW op)),h):=by
 refine ah BR rfl ?_;unfold sf
 by_cases h1:op<1
 ·have hn:∀ k:Int,1≤k→decide (op=k)=false:=fun k hk=>by rw[decide_eq_false_iff_not];omega
  have:aW op= -1:=by unfold aW;split<;>omega
  simp only[sim,ag,reduceAdd,reduceSub,replicate,reduceCtorEq,reduceLeDiff,reduceLT,aa,this,hn 1 (by omega),hn 2 (by omega),hn 3 (by omega),hn 4 (by omega),hn 5 (by omega),hn 6 (by omega),hn 7 (by omega),hn 8 (by omega),hn 9 (by omega),hn 10 (by omega),hn 11 (by omega),hn 12 (by omega),hn 13 (by omega),hn 14 (by omega),hn 15 (by omega),hn 16 (by omega),hn 17 (by omega),hn 18 (by omega),hn 19 (by omega),hn 20 (by omega),hn 21 (by omega)]
 ·by_cases h2:21<op
  ·have hn:∀ k:Int,k≤21→decide (op=k)=false:=fun k hk=>by rw[decide_eq_false_iff_not];omega
   have:aW op= -1:=by unfold aW;split<;>omega
   simp only[sim,ag,reduceAdd,reduceSub,replicate,reduceCtorEq,reduceLeDiff,reduceLT,aa,this,hn 1 (by omega),hn 2 (by omega),hn 3 (by omega),hn 4 (by omega),hn 5 (by omega),hn 6 (by omega),hn 7 (by omega),hn 8 (by omega),hn 9 (by omega),hn 10 (by omega),hn 11 (by omega),hn 12 (by omega),hn 13 (by omega),hn 14 (by omega),hn 15 (by omega),hn 16 (by omega),hn 17 (by omega),hn 18 (by omega),hn 19 (by omega),hn 20 (by omega),hn 21 (by omega)]
  ·rcases zg h1 h2 with rfl | rfl | rfl | rfl | rfl | rfl | rfl | rfl | rfl | rfl | rfl | rfl | rfl | rfl | rfl | rfl | rfl | rfl | rfl | rfl | rfl<;>
    (simp only[sim,ag,reduceAdd,reduceSub,replicate,reduceCtorEq,reduceLeDiff,reduceLT,aa,Int.reduceEq];rfl)
theorem uk (c a:Int):aj Try.prog po 100 [.int .i64 c,.int .i64 a] h=some (.inl (.agg [.int .i64 c,.int .i64 a]),h):=by
 refine ah Pl rfl ?_;unfold M1
 simp only[sim,ag,reduceAdd,reduceSub,replicate,reduceCtorEq,reduceLeDiff,reduceLT,aa,aA (af.push h _) (rfl:wkA (.agg [.int .i64 c,.int .i64 a])=_)]
theorem AU (v:AV) (L:List XD) (hv:gC h v L) (hL:L.length≤20) (v0 v4:AV):∀ (l pre:List XD) (v5 v6:AV),L=pre++l→
  cFR true [.v 2] h (aq (aj Try.prog po) 7 [.lp eB,.ss [],.blk 0,.ss [.ops [(.i (.v 2) (.mv (.c (.bool false))))],.ret]] [v0,.ptr h.n 0 0,.bool false,.int .i64 pre.length,v4,v5,v6] [] (h.push [[v]]))=
   some (.inl (.bool (l.any fun x=>decide (600<x.size))),h):=by
 intro l
 induction l with
 | nil=>
   intro pre v5 v6 e
   have e':L=pre:=by simpa using e
   have hlt:¬ ((pre.length:Int)<(L.length:Int)):=by rw[e'];omega
   rw[aB eB.eq_1]
   simp only[sim,ag,reduceAdd,reduceSub,replicate,reduceCtorEq,reduceLeDiff,reduceLT,aa,hv.len,hv.fits,hlt,List.any_nil,aA (af.push h _) (rfl:wkA (.bool false)=_)]
 | cons y l ih=>
   intro pre v5 v6 e
   have hlt:(pre.length:Int)<(L.length:Int):=by rw[e];simp;omega
   obtain⟨a,q,i1,i2,i3⟩:=hv.ix pre.length y (by rw[e];simp)
   have i2':=i2 _ (af.push h [[v]])
   have cy:=qr _ y (Nat.le_refl _) q (h.push [[v]]) 600 i3 (by omega) (by omega)
   have hw:=w64 (n:=(pre.length:Int)+1) (by rw[e]at hL;simp at hL;omega) (by rw[e]at hL;simp at hL;omega)
   rw[aB eB.eq_1]
   by_cases hb:600<y.size
   ·have hb2:(600:Int)<min (y.size:Int) (600+1):=by omega
    simp only[sim,ag,reduceAdd,reduceSub,replicate,reduceCtorEq,reduceLeDiff,reduceLT,aa,hv.len,hv.fits,hlt,i1,i2',cy,hb2,List.any_cons,hb,aA (af.push h _) (rfl:wkA (.bool true)=_)]
   ·have hb2:¬ (600:Int)<min (y.size:Int) (600+1):=by omega
    have r1:=ih (pre++[y]) (.bool true) (.bool false) (by simp[e])
    have e2:((pre++[y]).length:Int)=(pre.length:Int)+1:=by simp
    rw[e2]at r1
    simp only[sim,ag,reduceAdd,reduceSub,replicate,reduceCtorEq,reduceLeDiff,reduceLT,aa,hv.len,hv.fits,hlt,i1,i2',cy,hb2,List.any_cons,hb,hw]
    exact r1
theorem Fh (v:AV) (L:List XD) (hv:gC h v L):aj Try.prog po 26 [.agg [v]] h=some (.inl (.bool (gm L)),h):=by
 refine ah sJ rfl ?_;unfold l8
 have h1:=hv.one
 by_cases hb:20<L.length
 ·have hb2:(20:Int)<(L.length:Int):=by omega
  simp only[sim,ag,reduceAdd,reduceSub,replicate,reduceCtorEq,reduceLeDiff,reduceLT,aa,h1,hv.len,hv.fits,hb2,gm,hb,aA (af.push h _) (rfl:wkA (.bool true)=_)]
 ·have hb2:¬ (20:Int)<(L.length:Int):=by omega
  have r1:=AU v L hv (by omega) (.agg [v]) (.bool false) L [] .junk .junk rfl
  simp only[List.length_nil,Int.natCast_zero]at r1
  simp only[sim,ag,reduceAdd,reduceSub,replicate,reduceCtorEq,reduceLeDiff,reduceLT,aa,h1,hv.len,hv.fits,hb2,gm,hb]
  exact r1
end
section
variable {h:AH}
theorem Ap (v:AV) (L:List XD) (hv:gC h v L) (hL:L.length≤100000) (g:FuncId) (a c:List AV) (p:XD→Bool)
  (hf:∀ y∈L,∀ q,ExA y q→aj Try.prog po g (a++[.agg q]++c) h=some (.inl (.bool (p y)),h)):∀ (l pre:List XD) (v2 v3 v6 v7:AV),L=pre++l→
  ∃ n:Int,cFR true [.v 2] h (aq (aj Try.prog po) 8 [.lp fY,.ss [],.blk 0,.ss [.ops [(.i (.v 2) (.mv (.c (.int .i64 (-1)))))],.ret]] [v,.fn g a c,v2,v3,.int .i64 L.length,.int .i64 pre.length,v6,v7] [] h)=
    some (.inl (.int .i64 n),h)∧decide (0≤n)=l.any p:=by
 intro l
 induction l with
 | nil=>
   intro pre v2 v3 v6 v7 e
   have e':L=pre:=by simpa using e
   have hlt:¬ ((pre.length:Int)<(L.length:Int)):=by rw[e'];omega
   refine⟨-1,?_,rfl⟩
   rw[aB fY.eq_1]
   simp only[sim,ag,reduceAdd,reduceSub,replicate,reduceCtorEq,reduceLeDiff,reduceLT,aa,hlt]
 | cons y l ih=>
   intro pre v2 v3 v6 v7 e
   have hlt:(pre.length:Int)<(L.length:Int):=by rw[e];simp;omega
   obtain⟨ad,q,i1,i2,i3⟩:=hv.ix pre.length y (by rw[e];simp)
   have i2':=i2 _ (af.refl h)
   have cy:=hf y (by rw[e];simp) q i3
   simp only[List.append_assoc,List.cons_append,List.nil_append]at cy
   have hw:=w64 (n:=(pre.length:Int)+1) (by rw[e]at hL;simp at hL;omega) (by rw[e]at hL;simp at hL;omega)
   cases hb:p y
   ·obtain⟨n,r1,r2⟩:=ih (pre++[y]) v2 (.int .i64 pre.length) (.bool true) (.bool false) (by simp[e])
    have e2:((pre++[y]).length:Int)=(pre.length:Int)+1:=by simp
    rw[e2]at r1
    refine⟨n,?_,by rw[r2];simp[hb]⟩
    rw[hb]at cy
    rw[aB fY.eq_1]
    simp only[sim,ag,reduceAdd,reduceSub,replicate,reduceCtorEq,reduceLeDiff,reduceLT,aa,az,List.append_assoc,hlt,i1,i2',cy,hw]
    exact r1
   ·refine⟨pre.length,?_,?_⟩
    ·rw[hb]at cy
     rw[aB fY.eq_1]
     simp only[sim,ag,reduceAdd,reduceSub,replicate,reduceCtorEq,reduceLeDiff,reduceLT,aa,az,List.append_assoc,hlt,i1,i2',cy]
    ·simp[hb]
theorem um (v:AV) (L:List XD) (hv:gC h v L) (hL:L.length≤100000) (g:FuncId) (a c:List AV) (p:XD→Bool)
  (hf:∀ y∈L,∀ q,ExA y q→aj Try.prog po g (a++[.agg q]++c) h=some (.inl (.bool (p y)),h)):
  aj Try.prog po 115 [v,.fn g a c] h=some (.inl (.bool (L.any p)),h):=by
 obtain⟨n,r1,r2⟩:=Ap v L hv hL g a c p hf L [] (.int .i64 0) .junk .junk .junk rfl
 simp only[List.length_nil,Int.natCast_zero]at r1
 have r0:aj Try.prog po 129 [v,.fn g a c] h=some (.inl (.int .i64 n),h):=by
  refine ah EA rfl ?_;unfold vL
  simp only[sim,ag,reduceAdd,reduceSub,replicate,reduceCtorEq,reduceLeDiff,reduceLT,aa,hv.len,hv.fits]
  exact r1
 refine ah wD rfl ?_;unfold oQ
 simp only[sim,ag,reduceAdd,reduceSub,replicate,reduceCtorEq,reduceLeDiff,reduceLT,aa,r0,r2]
theorem Fc:∀ (N:Nat) (x:XD),SizeOf.sizeOf x≤N→x.size≤100000→∀ (r:List AV) (h:AH) (left:Int),ExA x r→ -1≤left→left≤100000→
  aj Try.prog po 96 [.agg r,.int .i64 left] h=some (.inl (.bool (decide ((x.depth:Int)≤left))),h):=by
 intro N
 induction N with
 | zero=>intro x hx;have:=x.so_pos;omega
 | succ N ih=>
   intro x hx hsz r h left he h0 hm
   obtain⟨v,es,e,hv,hl⟩:=he.row
   have mv:∀ h',gC h' v x.l:=fun h'=>gC.of hv hl
   have hv1:=(mv h).one
   subst e
   refine ah Hi rfl ?_;unfold As
   by_cases hp:0≤left
   ·have hlen:=x.len_size
    have ck:=um (h:=(h.push [[.int .i64 x.op,.int .i64 x.k,.int .i64 x.n,v]]).push [[.int .i64 left]]) v x.l (mv _) (by omega) 116 [] [.ptr (h.n+1) 0 0] (fun y=> !decide ((y.depth:Int)≤left - 1)) (fun y hy q hq=>by
     have hw:=w64 (n:=left - 1) (by omega) (by omega)
     have dy:=ih y (by have:=XD.lt_mem hy;omega) (by have:=XD.size_mem hy;omega) q (((h.push [[.int .i64 x.op,.int .i64 x.k,.int .i64 x.n,v]]).push [[.int .i64 left]]).push [q]) (left - 1) hq (by omega) (by omega)
     obtain⟨q1,q2⟩:=hq.one
     refine ah Eq rfl ?_;unfold wu
     simp only[sim,ag,reduceAdd,reduceSub,replicate,reduceCtorEq,reduceLeDiff,reduceLT,aa,q1,q2,hw,dy,aA (af.push _ _) (rfl:wkA (.bool (!decide ((y.depth:Int)≤left - 1)))=_)])
    simp only[sim,ag,reduceAdd,reduceSub,replicate,reduceCtorEq,reduceLeDiff,reduceLT,aa,hv1,hp,ck,HV x hp,aA ((af.push h _).trans (af.push _ _)) (rfl:wkA (.bool (decide ((x.depth:Int)≤left)))=_)]
   ·have hd:decide ((x.depth:Int)≤left)=false:=by rw[decide_eq_false_iff_not];omega
    rw[hd]
    simp only[sim,ag,reduceAdd,reduceSub,replicate,reduceCtorEq,reduceLeDiff,reduceLT,aa,hv1,hp,aA ((af.push h _).trans (af.push _ _)) (rfl:wkA (.bool false)=_)]
end
section
variable {h:AH}
end
section
variable {h:AH}
end
end Go.Proofs.Ytkdbjfncchmmpaa
