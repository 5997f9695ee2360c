/- The functions of the part 'token' as lists of steps. Texts one behind the other, and the library's FormatInt, in the plain model. From a run in the plain model to what a law asks. Calls and loops in the plain model, told by what must hold behind them; small steps of memory. token in the plain model: letters, digits, blanks; runs of them; a number's text; one token. token in the plain model: Scan. the document's Scan, in the plain model. the laws of tokens, in the plain model. -/
import Derived.Test.YtngphebjmmencaaDoorMg7
import Derived.Lib.ParseIntBTie
namespace Go.Proofs.YtngphebjmmencaaDoor
set_option linter.unusedSimpArgs false
set_option linter.unusedVariables false
open Go

def rc_tletter : List RS := [(.ops [(.i (.v 1) (.mv (.c (.bool false))))]), (.ops [(.i .l (.mv (.v 0))), (.i .l (.bin (.int .u8) .geq (.l 0) (.c (.int .u8 97)))), (.i .l (.mv (.l 0))), (.g (.l 0) true .l (.mv (.v 0))), (.g (.l 1) true .l (.bin (.int .u8) .leq (.l 0) (.c (.int .u8 122)))), (.i .l (.pick (.l 2) (.l 0) (.c (.bool false)))), (.i (.v 1) (.mv (.l 0)))]), .ret]
theorem fn_tletter : FnR Tryd.prog po 47 1 2 [0, 2] rc_tletter [(.v 1)] true := ⟨_, _, Tryd.func47, rfl, rfl, by kernel_rfl, by kernel_rfl, by kernel_rfl, by kernel_rfl, by kernel_rfl⟩
def rc_tdigit : List RS := [(.ops [(.i (.v 1) (.mv (.c (.bool false))))]), (.ops [(.i .l (.mv (.v 0))), (.i .l (.bin (.int .u8) .geq (.l 0) (.c (.int .u8 48)))), (.i .l (.mv (.l 0))), (.g (.l 0) true .l (.mv (.v 0))), (.g (.l 1) true .l (.bin (.int .u8) .leq (.l 0) (.c (.int .u8 57)))), (.i .l (.pick (.l 2) (.l 0) (.c (.bool false)))), (.i (.v 1) (.mv (.l 0)))]), .ret]
theorem fn_tdigit : FnR Tryd.prog po 48 1 2 [0, 2] rc_tdigit [(.v 1)] true := ⟨_, _, Tryd.func48, rfl, rfl, by kernel_rfl, by kernel_rfl, by kernel_rfl, by kernel_rfl, by kernel_rfl⟩
def rc_tblank : List RS := [(.ops [(.i (.v 1) (.mv (.c (.bool false))))]), (.ops [(.i .l (.mv (.v 0))), (.i .l (.bin (.int .u8) .eql (.l 0) (.c (.int .u8 32)))), (.i .l (.mv (.l 0))), (.g (.l 0) false .l (.mv (.v 0))), (.g (.l 1) false .l (.bin (.int .u8) .eql (.l 0) (.c (.int .u8 9)))), (.i .l (.pick (.l 2) (.c (.bool true)) (.l 0))), (.i .l (.mv (.l 0))), (.g (.l 0) false .l (.mv (.v 0))), (.g (.l 1) false .l (.bin (.int .u8) .eql (.l 0) (.c (.int .u8 10)))), (.i .l (.pick (.l 2) (.c (.bool true)) (.l 0))), (.i .l (.mv (.l 0))), (.g (.l 0) false .l (.mv (.v 0))), (.g (.l 1) false .l (.bin (.int .u8) .eql (.l 0) (.c (.int .u8 13)))), (.i .l (.pick (.l 2) (.c (.bool true)) (.l 0))), (.i (.v 1) (.mv (.l 0)))]), .ret]
theorem fn_tblank : FnR Tryd.prog po 25 1 2 [0, 2] rc_tblank [(.v 1)] true := ⟨_, _, Tryd.func25, rfl, rfl, by kernel_rfl, by kernel_rfl, by kernel_rfl, by kernel_rfl, by kernel_rfl⟩
def rc_trun_b1 : List RS := [(.ops [(.i .l (.mv (.v 1))), (.i .l (.mv (.v 4))), (.i .l (.bin (.int .i64) .add (.l 1) (.l 0))), (.i .l (.mv (.v 0))), (.i .l (.len true none (.l 0))), (.i .l (.bin (.int .i64) .lss (.l 2) (.l 0))), (.i .l (.mv (.l 0))), (.g (.l 0) true .l (.mv (.v 2))), (.g (.l 1) true .l (.mv (.v 0))), (.g (.l 2) true .l (.mv (.v 1))), (.g (.l 3) true .l (.mv (.v 4))), (.g (.l 4) true .l (.bin (.int .i64) .add (.l 1) (.l 0))), (.g (.l 5) true .l (.ix true none (.l 3) (.l 0))), (.g (.l 6) true .l (.call (.l 5) [(.l 0)])), (.i (.v 5) (.pick (.l 7) (.l 0) (.c (.bool false))))]), (.cond (.v 5) [] [(.exit 0)]), (.block 1 [(.ops [(.i .l (.mv (.v 4))), (.i .l (.bin (.int .i64) .add (.l 0) (.c (.int .i64 1)))), (.i (.v 4) (.mv (.l 0)))])])]
def rc_trun : List RS := [(.ops [(.i (.v 3) (.mv (.c (.int .i64 0))))]), (.ops [(.i (.v 4) (.mv (.c (.int .i64 0))))]), (.block 0 [(.loop rc_trun_b1)]), (.ops [(.i .l (.mv (.v 4))), (.i (.v 3) (.mv (.l 0)))]), .ret]
theorem fn_trun : FnR Tryd.prog po 24 3 6 [0, 1, 2, 6, 7, 22] rc_trun [(.v 3)] true := ⟨_, _, Tryd.func24, rfl, rfl, by kernel_rfl, by kernel_rfl, by kernel_rfl, by kernel_rfl, by kernel_rfl⟩
def rc_tone : List RS := [(.ops [(.i (.v 2) (.alloc [(.int .i64 0), (.str []), (.bool false), (.int .i64 0)])), (.i (.v 3) (.mv (.c (.int .i64 0))))]), (.ops [(.i .l (.mv (.v 0))), (.i .l (.mv (.v 1))), (.i .l (.ix true none (.l 1) (.l 0))), (.i (.v 4) (.mv (.l 0)))]), (.block 0 [(.ops [(.i .l (.mv (.v 4))), (.i .l (.bin (.int .u8) .eql (.l 0) (.c (.int .u8 40)))), (.i .l (.mv (.l 0))), (.g (.l 0) false .l (.mv (.v 4))), (.g (.l 1) false .l (.bin (.int .u8) .eql (.l 0) (.c (.int .u8 41)))), (.i .l (.pick (.l 2) (.c (.bool true)) (.l 0))), (.i (.v 8) (.mv (.l 0)))]), (.cond (.v 8) [(.ops [(.i .l (.mv (.v 1))), (.i .l (.mv (.v 0))), (.i .l (.mv (.v 1))), (.i .l (.mv (.v 1))), (.i .l (.bin (.int .i64) .add (.l 0) (.c (.int .i64 1)))), (.i .l (.slc true none (.l 3) (some (.l 2)) (some (.l 0)))), (.i .l (.build [(.int .i64 0), (.str []), (.bool false), (.int .i64 0)] [(0, 1), (1, 1), (2, 1), (3, 1)] [(0, (.l 5)), (1, (.l 0))])), (.i .n (.store 4 (.v 2) (.l 0))), (.i (.v 3) (.mv (.c (.int .i64 0))))]), .ret] [(.ops [(.i .l (.mv (.v 4))), (.i .l (.call (.c (.fn 47 [] [])) [(.l 0)])), (.i (.v 9) (.mv (.l 0)))]), (.cond (.v 9) [(.ops [(.i .l (.mv (.v 1))), (.i .l (.mv (.v 0))), (.i .l (.mv (.v 1))), (.i .l (.mv (.v 1))), (.i .l (.mv (.v 0))), (.i .l (.mv (.v 1))), (.i .l (.call (.c (.fn 24 [] [])) [(.l 1), (.l 0), (.c (.fn 47 [] []))])), (.i .l (.bin (.int .i64) .add (.l 3) (.l 0))), (.i .l (.slc true none (.l 6) (some (.l 5)) (some (.l 0)))), (.i .l (.build [(.int .i64 0), (.str []), (.bool false), (.int .i64 0)] [(0, 1), (1, 1), (2, 1), (3, 1)] [(0, (.l 8)), (1, (.l 0))])), (.i .n (.store 4 (.v 2) (.l 0))), (.i (.v 3) (.mv (.c (.int .i64 0))))]), .ret] [(.ops [(.i .l (.mv (.v 4))), (.i .l (.call (.c (.fn 48 [] [])) [(.l 0)])), (.i .l (.un .not (.l 0))), (.i .l (.mv (.l 0))), (.g (.l 0) true .l (.mv (.v 4))), (.g (.l 1) true .l (.bin (.int .u8) .neq (.l 0) (.c (.int .u8 45)))), (.i .l (.pick (.l 2) (.l 0) (.c (.bool false)))), (.i (.v 10) (.mv (.l 0)))]), (.cond (.v 10) [(.ops [(.i .l (.build [(.int .i64 0), (.str []), (.bool false), (.int .i64 0)] [(0, 1), (1, 1), (2, 1), (3, 1)] [])), (.i .n (.store 4 (.v 2) (.l 0))), (.i (.v 3) (.mv (.c (.int .i64 7))))]), .ret] [])])])]), (.ops [(.i .l (.mv (.v 0))), (.i .l (.mv (.v 1))), (.i .l (.mv (.v 1))), (.i .l (.bin (.int .i64) .add (.l 0) (.c (.int .i64 1)))), (.i .l (.mv (.v 0))), (.i .l (.mv (.v 1))), (.i .l (.bin (.int .i64) .add (.l 0) (.c (.int .i64 1)))), (.i .l (.call (.c (.fn 24 [] [])) [(.l 2), (.l 0), (.c (.fn 48 [] []))])), (.i .l (.bin (.int .i64) .add (.l 4) (.l 0))), (.i .l (.slc true none (.l 8) (some (.l 7)) (some (.l 0)))), (.i (.v 5) (.mv (.l 0)))]), (.ops [(.i .l (.mv (.v 5))), (.i .l (.call (.c (.fn 49 [] [])) [(.l 0), (.c (.int .i64 10)), (.c (.int .i64 64))])), (.i .l (.mv (.l 0))), (.i .l (.ext (.l 0) 0)), (.i .l (.ext (.l 1) 1)), (.i (.v 6) (.mv (.l 1))), (.i (.v 7) (.mv (.l 0)))]), (.ops [(.i .l (.mv (.v 7))), (.i .l (.binG .iface none true .neq (.l 0) (.c .nili))), (.i .l (.mv (.l 0))), (.g (.l 0) false .l (.mv (.v 6))), (.g (.l 1) false .l (.call (.c (.fn 50 [] [])) [(.l 0), (.c (.int .i64 10))])), (.g (.l 2) false .l (.mv (.v 5))), (.g (.l 3) false .l (.bin .str .neq (.l 1) (.l 0))), (.i (.v 11) (.pick (.l 4) (.c (.bool true)) (.l 0)))]), (.cond (.v 11) [(.ops [(.i .l (.build [(.int .i64 0), (.str []), (.bool false), (.int .i64 0)] [(0, 1), (1, 1), (2, 1), (3, 1)] [])), (.i .n (.store 4 (.v 2) (.l 0))), (.i (.v 3) (.mv (.c (.int .i64 7))))]), .ret] []), (.ops [(.i .l (.mv (.v 1))), (.i .l (.mv (.v 5))), (.i .l (.mv (.v 6))), (.i .l (.build [(.int .i64 0), (.str []), (.bool false), (.int .i64 0)] [(0, 1), (1, 1), (2, 1), (3, 1)] [(0, (.l 2)), (1, (.l 1)), (2, (.c (.bool true))), (3, (.l 0))])), (.i .n (.store 4 (.v 2) (.l 0))), (.i (.v 3) (.mv (.c (.int .i64 0))))]), .ret]
theorem fn_tone : FnR Tryd.prog po 26 2 12 [0, 1, 4, 5, 6, 7, 8, 9, 13, 27, 40, 71] rc_tone [(.cell true 4 2), (.v 3)] true := ⟨_, _, Tryd.func26, rfl, rfl, by kernel_rfl, by kernel_rfl, by kernel_rfl, by kernel_rfl, by kernel_rfl⟩
def rc_tScan_b1 : List RS := [(.ops [(.i .l (.mv (.v 4))), (.i .l (.mv (.v 0))), (.i .l (.len true none (.l 0))), (.i (.v 8) (.bin (.int .i64) .lss (.l 2) (.l 0)))]), (.cond (.v 8) [] [(.exit 0)]), (.block 1 [(.ops [(.i .l (.mv (.v 0))), (.i .l (.mv (.v 4))), (.i .l (.call (.c (.fn 26 [] [])) [(.l 1), (.l 0)])), (.i .l (.mv (.l 0))), (.i .l (.ext (.l 0) 0)), (.i .l (.ext (.l 1) 1)), (.i (.v 5) (.alloc [(.int .i64 0), (.str []), (.bool false), (.int .i64 0)])), (.i .n (.store 4 (.v 5) (.l 1))), (.i (.v 6) (.mv (.l 0)))]), (.ops [(.i .l (.mv (.v 6))), (.i (.v 9) (.bin (.int .i64) .neq (.l 0) (.c (.int .i64 0))))]), (.cond (.v 9) [(.ops [(.i .l (.mv (.v 6))), (.i .l (.mv (.v 4))), (.i .l (.build [(.int .i64 0), (.int .i64 0)] [(0, 1), (1, 1)] [(0, (.l 1)), (1, (.l 0))])), (.i (.v 1) (.mv (.c .nils))), (.i .n (.store 2 (.v 2) (.l 0)))]), .ret] []), (.ops [(.i .l (.mv (.v 3))), (.i .l (.load true 4 (.v 5))), (.i .l (.bsl false 32 [(.int .i64 0), (.str []), (.bool false), (.int .i64 0)] 4 1 [(0, (.l 0))])), (.i .l (.app false 32 (.l 2) (.l 0))), (.i (.v 3) (.mv (.l 0)))]), (.ops [(.i .l (.mv (.v 4))), (.i .l (.fad 1 (.v 5))), (.i .l (.load false 1 (.l 0))), (.i .l (.len true none (.l 0))), (.i .l (.bin (.int .i64) .add (.l 3) (.l 0))), (.i (.v 4) (.mv (.l 0)))])]), (.ops [(.i .l (.mv (.v 4))), (.i .l (.mv (.v 0))), (.i .l (.mv (.v 4))), (.i .l (.call (.c (.fn 24 [] [])) [(.l 1), (.l 0), (.c (.fn 25 [] []))])), (.i .l (.bin (.int .i64) .add (.l 3) (.l 0))), (.i (.v 4) (.mv (.l 0)))])]
def rc_tScan : List RS := [(.ops [(.i (.v 1) (.mv (.c .nils))), (.i (.v 2) (.alloc [(.int .i64 0), (.int .i64 0)]))]), (.ops [(.i .l (.mv (.v 0))), (.i .l (.len true none (.l 0))), (.i (.v 7) (.bin (.int .i64) .gtr (.l 0) (.c (.int .i64 6000))))]), (.cond (.v 7) [(.ops [(.i .l (.build [(.int .i64 0), (.int .i64 0)] [(0, 1), (1, 1)] [(0, (.c (.int .i64 3))), (1, (.c (.int .i64 6000)))])), (.i (.v 1) (.mv (.c .nils))), (.i .n (.store 2 (.v 2) (.l 0)))]), .ret] []), (.ops [(.i (.v 3) (.mv (.c .nils)))]), (.ops [(.i .l (.mv (.v 0))), (.i .l (.call (.c (.fn 24 [] [])) [(.l 0), (.c (.int .i64 0)), (.c (.fn 25 [] []))])), (.i (.v 4) (.mv (.l 0)))]), (.block 0 [(.loop rc_tScan_b1)]), (.ops [(.i .l (.mv (.v 3))), (.i .l (.build [(.int .i64 0), (.int .i64 0)] [(0, 1), (1, 1)] [])), (.i (.v 1) (.mv (.l 1))), (.i .n (.store 2 (.v 2) (.l 0)))]), .ret]
theorem fn_tScan : FnR Tryd.prog po 10 1 10 [0, 2, 3, 4, 5, 6, 7, 10, 17, 30] rc_tScan [(.v 1), (.cell true 2 2)] true := ⟨_, _, Tryd.func10, rfl, rfl, by kernel_rfl, by kernel_rfl, by kernel_rfl, by kernel_rfl, by kernel_rfl⟩
def rc_tF : List RS := [(.ops [(.i (.v 2) (.alloc [(.int .i64 0), (.int .i64 0)]))]), (.ops [(.i .l (.mv (.v 0))), (.i .l (.mv (.v 1))), (.i .l (.build [(.int .i64 0), (.int .i64 0)] [(0, 1), (1, 1)] [(0, (.l 1)), (1, (.l 0))])), (.i .n (.store 2 (.v 2) (.l 0)))]), .ret]
theorem fn_tF : FnR Tryd.prog po 27 2 3 [0, 1, 4] rc_tF [(.cell true 2 2)] true := ⟨_, _, Tryd.func27, rfl, rfl, by kernel_rfl, by kernel_rfl, by kernel_rfl, by kernel_rfl, by kernel_rfl⟩
def rc_isLetter : List RS := [(.ops [(.i (.v 1) (.mv (.c (.bool false))))]), (.ops [(.i .l (.mv (.v 0))), (.i .l (.bin (.int .u8) .geq (.l 0) (.c (.int .u8 97)))), (.i .l (.mv (.l 0))), (.g (.l 0) true .l (.mv (.v 0))), (.g (.l 1) true .l (.bin (.int .u8) .leq (.l 0) (.c (.int .u8 122)))), (.i .l (.pick (.l 2) (.l 0) (.c (.bool false)))), (.i (.v 1) (.mv (.l 0)))]), .ret]
theorem fn_isLetter : FnR Tryd.prog po 28 1 2 [0, 2] rc_isLetter [(.v 1)] true := ⟨_, _, Tryd.func28, rfl, rfl, by kernel_rfl, by kernel_rfl, by kernel_rfl, by kernel_rfl, by kernel_rfl⟩
def rc_isDigit : List RS := [(.ops [(.i (.v 1) (.mv (.c (.bool false))))]), (.ops [(.i .l (.mv (.v 0))), (.i .l (.bin (.int .u8) .geq (.l 0) (.c (.int .u8 48)))), (.i .l (.mv (.l 0))), (.g (.l 0) true .l (.mv (.v 0))), (.g (.l 1) true .l (.bin (.int .u8) .leq (.l 0) (.c (.int .u8 57)))), (.i .l (.pick (.l 2) (.l 0) (.c (.bool false)))), (.i (.v 1) (.mv (.l 0)))]), .ret]
theorem fn_isDigit : FnR Tryd.prog po 29 1 2 [0, 2] rc_isDigit [(.v 1)] true := ⟨_, _, Tryd.func29, rfl, rfl, by kernel_rfl, by kernel_rfl, by kernel_rfl, by kernel_rfl, by kernel_rfl⟩
def rc_LongOf : List RS := [(.ops [(.i (.v 1) (.mv (.c (.int .i64 0)))), (.i (.v 2) (.mv (.c (.bool false))))]), (.ops [(.i .l (.mv (.v 0))), (.i .l (.call (.c (.fn 49 [] [])) [(.l 0), (.c (.int .i64 10)), (.c (.int .i64 64))])), (.i .l (.mv (.l 0))), (.i .l (.ext (.l 0) 0)), (.i .l (.ext (.l 1) 1)), (.i (.v 3) (.mv (.l 1))), (.i (.v 4) (.mv (.l 0)))]), (.ops [(.i .l (.mv (.v 4))), (.i .l (.binG .iface none true .neq (.l 0) (.c .nili))), (.i .l (.mv (.l 0))), (.g (.l 0) false .l (.mv (.v 3))), (.g (.l 1) false .l (.call (.c (.fn 50 [] [])) [(.l 0), (.c (.int .i64 10))])), (.g (.l 2) false .l (.mv (.v 0))), (.g (.l 3) false .l (.bin .str .neq (.l 1) (.l 0))), (.i (.v 5) (.pick (.l 4) (.c (.bool true)) (.l 0)))]), (.cond (.v 5) [(.ops [(.i (.v 1) (.mv (.c (.int .i64 0)))), (.i (.v 2) (.mv (.c (.bool false))))]), .ret] []), (.ops [(.i .l (.mv (.v 3))), (.i (.v 1) (.mv (.l 0))), (.i (.v 2) (.mv (.c (.bool true))))]), .ret]
theorem fn_LongOf : FnR Tryd.prog po 30 1 6 [0, 2, 3, 4, 5, 18] rc_LongOf [(.v 1), (.v 2)] true := ⟨_, _, Tryd.func30, rfl, rfl, by kernel_rfl, by kernel_rfl, by kernel_rfl, by kernel_rfl, by kernel_rfl⟩
def rc_rScan_b1 : List RS := [(.ops [(.i .l (.mv (.v 6))), (.i .l (.mv (.v 0))), (.i .l (.len true none (.l 0))), (.i .l (.bin (.int .i64) .lss (.l 2) (.l 0))), (.i .l (.mv (.l 0))), (.g (.l 0) true .l (.mv (.v 0))), (.g (.l 1) true .l (.mv (.v 6))), (.g (.l 2) true .l (.ix true none (.l 1) (.l 0))), (.g (.l 3) true .l (.call (.c (.fn 29 [] [])) [(.l 0)])), (.i (.v 16) (.pick (.l 4) (.l 0) (.c (.bool false))))]), (.cond (.v 16) [] [(.exit 4)]), (.block 5 [(.ops [(.i .l (.mv (.v 6))), (.i .l (.bin (.int .i64) .add (.l 0) (.c (.int .i64 1)))), (.i (.v 6) (.mv (.l 0)))])])]
def rc_rScan_b2 : List RS := [(.ops [(.i .l (.mv (.v 6))), (.i .l (.mv (.v 0))), (.i .l (.len true none (.l 0))), (.i .l (.bin (.int .i64) .lss (.l 2) (.l 0))), (.i .l (.mv (.l 0))), (.g (.l 0) true .l (.mv (.v 0))), (.g (.l 1) true .l (.mv (.v 6))), (.g (.l 2) true .l (.ix true none (.l 1) (.l 0))), (.g (.l 3) true .l (.call (.c (.fn 28 [] [])) [(.l 0)])), (.i (.v 14) (.pick (.l 4) (.l 0) (.c (.bool false))))]), (.cond (.v 14) [] [(.exit 2)]), (.block 3 [(.ops [(.i .l (.mv (.v 6))), (.i .l (.bin (.int .i64) .add (.l 0) (.c (.int .i64 1)))), (.i (.v 6) (.mv (.l 0)))])])]
def rc_rScan_b3 : List RS := [(.ops [(.i .l (.mv (.v 4))), (.i .l (.mv (.v 0))), (.i .l (.len true none (.l 0))), (.i (.v 10) (.bin (.int .i64) .lss (.l 2) (.l 0)))]), (.cond (.v 10) [] [(.exit 0)]), (.block 1 [(.ops [(.i .l (.mv (.v 0))), (.i .l (.mv (.v 4))), (.i .l (.ix true none (.l 1) (.l 0))), (.i (.v 5) (.mv (.l 0)))]), (.ops [(.i .l (.mv (.v 4))), (.i .l (.bin (.int .i64) .add (.l 0) (.c (.int .i64 1)))), (.i (.v 6) (.mv (.l 0)))]), (.ops [(.i .l (.mv (.v 5))), (.i .l (.bin (.int .u8) .eql (.l 0) (.c (.int .u8 32)))), (.i .l (.mv (.l 0))), (.g (.l 0) false .l (.mv (.v 5))), (.g (.l 1) false .l (.bin (.int .u8) .eql (.l 0) (.c (.int .u8 9)))), (.i .l (.pick (.l 2) (.c (.bool true)) (.l 0))), (.i .l (.mv (.l 0))), (.g (.l 0) false .l (.mv (.v 5))), (.g (.l 1) false .l (.bin (.int .u8) .eql (.l 0) (.c (.int .u8 10)))), (.i .l (.pick (.l 2) (.c (.bool true)) (.l 0))), (.i .l (.mv (.l 0))), (.g (.l 0) false .l (.mv (.v 5))), (.g (.l 1) false .l (.bin (.int .u8) .eql (.l 0) (.c (.int .u8 13)))), (.i (.v 11) (.pick (.l 2) (.c (.bool true)) (.l 0)))]), (.cond (.v 11) [(.ops [(.i .l (.mv (.v 4))), (.i .l (.bin (.int .i64) .add (.l 0) (.c (.int .i64 1)))), (.i (.v 4) (.mv (.l 0)))]), (.exit 1)] []), (.ops [(.i .l (.mv (.v 5))), (.i .l (.bin (.int .u8) .eql (.l 0) (.c (.int .u8 40)))), (.i .l (.mv (.l 0))), (.g (.l 0) false .l (.mv (.v 5))), (.g (.l 1) false .l (.bin (.int .u8) .eql (.l 0) (.c (.int .u8 41)))), (.i (.v 12) (.pick (.l 2) (.c (.bool true)) (.l 0)))]), (.cond (.v 12) [(.ops [(.i .l (.mv (.v 3))), (.i .l (.mv (.v 4))), (.i .l (.mv (.v 0))), (.i .l (.mv (.v 4))), (.i .l (.mv (.v 6))), (.i .l (.slc true none (.l 2) (some (.l 1)) (some (.l 0)))), (.i .l (.build [(.int .i64 0), (.str []), (.bool false), (.int .i64 0)] [(0, 1), (1, 1), (2, 1), (3, 1)] [(0, (.l 4)), (1, (.l 0))])), (.i .l (.bsl false 33 [(.int .i64 0), (.str []), (.bool false), (.int .i64 0)] 4 1 [(0, (.l 0))])), (.i .l (.app false 33 (.l 7) (.l 0))), (.i (.v 3) (.mv (.l 0)))])] [(.ops [(.i .l (.mv (.v 5))), (.i (.v 13) (.call (.c (.fn 28 [] [])) [(.l 0)]))]), (.cond (.v 13) [(.block 2 [(.loop rc_rScan_b2)]), (.ops [(.i .l (.mv (.v 3))), (.i .l (.mv (.v 4))), (.i .l (.mv (.v 0))), (.i .l (.mv (.v 4))), (.i .l (.mv (.v 6))), (.i .l (.slc true none (.l 2) (some (.l 1)) (some (.l 0)))), (.i .l (.build [(.int .i64 0), (.str []), (.bool false), (.int .i64 0)] [(0, 1), (1, 1), (2, 1), (3, 1)] [(0, (.l 4)), (1, (.l 0))])), (.i .l (.bsl false 33 [(.int .i64 0), (.str []), (.bool false), (.int .i64 0)] 4 1 [(0, (.l 0))])), (.i .l (.app false 33 (.l 7) (.l 0))), (.i (.v 3) (.mv (.l 0)))])] [(.ops [(.i .l (.mv (.v 5))), (.i .l (.call (.c (.fn 29 [] [])) [(.l 0)])), (.i .l (.mv (.l 0))), (.g (.l 0) false .l (.mv (.v 5))), (.g (.l 1) false .l (.bin (.int .u8) .eql (.l 0) (.c (.int .u8 45)))), (.i (.v 15) (.pick (.l 2) (.c (.bool true)) (.l 0)))]), (.cond (.v 15) [(.block 4 [(.loop rc_rScan_b1)]), (.ops [(.i .l (.mv (.v 0))), (.i .l (.mv (.v 4))), (.i .l (.mv (.v 6))), (.i .l (.slc true none (.l 2) (some (.l 1)) (some (.l 0)))), (.i .l (.call (.c (.fn 30 [] [])) [(.l 0)])), (.i .l (.mv (.l 0))), (.i .l (.ext (.l 0) 0)), (.i .l (.ext (.l 1) 1)), (.i (.v 7) (.mv (.l 1))), (.i (.v 8) (.mv (.l 0)))]), (.ops [(.i .l (.mv (.v 8))), (.i (.v 17) (.un .not (.l 0)))]), (.cond (.v 17) [(.ops [(.i .l (.mv (.v 4))), (.i .l (.call (.c (.fn 27 [] [])) [(.c (.int .i64 7)), (.l 0)])), (.i (.v 1) (.mv (.c .nils))), (.i .n (.store 2 (.v 2) (.l 0)))]), .ret] []), (.ops [(.i .l (.mv (.v 3))), (.i .l (.mv (.v 4))), (.i .l (.mv (.v 0))), (.i .l (.mv (.v 4))), (.i .l (.mv (.v 6))), (.i .l (.slc true none (.l 2) (some (.l 1)) (some (.l 0)))), (.i .l (.mv (.v 7))), (.i .l (.build [(.int .i64 0), (.str []), (.bool false), (.int .i64 0)] [(0, 1), (1, 1), (2, 1), (3, 1)] [(0, (.l 5)), (1, (.l 1)), (2, (.c (.bool true))), (3, (.l 0))])), (.i .l (.bsl false 33 [(.int .i64 0), (.str []), (.bool false), (.int .i64 0)] 4 1 [(0, (.l 0))])), (.i .l (.app false 33 (.l 8) (.l 0))), (.i (.v 3) (.mv (.l 0)))])] [(.ops [(.i .l (.mv (.v 4))), (.i .l (.call (.c (.fn 27 [] [])) [(.c (.int .i64 7)), (.l 0)])), (.i (.v 1) (.mv (.c .nils))), (.i .n (.store 2 (.v 2) (.l 0)))]), .ret])])]), (.ops [(.i .l (.mv (.v 6))), (.i (.v 4) (.mv (.l 0)))])])]
def rc_rScan : List RS := [(.ops [(.i (.v 1) (.mv (.c .nils))), (.i (.v 2) (.alloc [(.int .i64 0), (.int .i64 0)]))]), (.ops [(.i .l (.mv (.v 0))), (.i .l (.len true none (.l 0))), (.i (.v 9) (.bin (.int .i64) .gtr (.l 0) (.c (.int .i64 6000))))]), (.cond (.v 9) [(.ops [(.i .l (.call (.c (.fn 27 [] [])) [(.c (.int .i64 3)), (.c (.int .i64 6000))])), (.i (.v 1) (.mv (.c .nils))), (.i .n (.store 2 (.v 2) (.l 0)))]), .ret] []), (.ops [(.i (.v 3) (.mv (.c .nils)))]), (.ops [(.i (.v 4) (.mv (.c (.int .i64 0))))]), (.block 0 [(.loop rc_rScan_b3)]), (.ops [(.i .l (.mv (.v 3))), (.i .l (.build [(.int .i64 0), (.int .i64 0)] [(0, 1), (1, 1)] [])), (.i (.v 1) (.mv (.l 1))), (.i .n (.store 2 (.v 2) (.l 0)))]), .ret]
theorem fn_rScan : FnR Tryd.prog po 11 1 18 [0, 2, 3, 4, 5, 6, 7, 8, 9, 12, 17, 36, 44, 55, 65, 82, 92, 104] rc_rScan [(.v 1), (.cell true 2 2)] true := ⟨_, _, Tryd.func11, rfl, rfl, by kernel_rfl, by kernel_rfl, by kernel_rfl, by kernel_rfl, by kernel_rfl⟩
def rc_tokenBegun : List RS := [(.ops [(.i (.v 0) (.mv (.c (.bool false))))]), (.ops [(.i .l (.call (.c (.fn 10 [] [])) [(.c (.str [40, 110, 117, 109, 32, 45, 53, 41]))])), (.i .l (.mv (.l 0))), (.i .l (.ext (.l 0) 0)), (.i .l (.ext (.l 1) 1)), (.i (.v 2) (.alloc [(.int .i64 0), (.int .i64 0)])), (.i (.v 1) (.mv (.l 1))), (.i .n (.store 2 (.v 2) (.l 0)))]), (.ops [(.i .l (.call (.c (.fn 10 [] [])) [(.c (.str [40, 53, 120]))])), (.i .l (.mv (.l 0))), (.i .l (.ext (.l 0) 0)), (.i .l (.ext (.l 1) 1)), (.i (.v 3) (.alloc [(.int .i64 0), (.int .i64 0)])), (.i .l (.mv (.l 1))), (.i .n (.store 2 (.v 3) (.l 1)))]), (.ops [(.i .l (.call (.c (.fn 10 [] [])) [(.c (.str [48, 53]))])), (.i .l (.mv (.l 0))), (.i .l (.ext (.l 0) 0)), (.i .l (.ext (.l 1) 1)), (.i (.v 4) (.alloc [(.int .i64 0), (.int .i64 0)])), (.i .l (.mv (.l 1))), (.i .n (.store 2 (.v 4) (.l 1)))]), (.ops [(.i .l (.fad 0 (.v 2))), (.i .l (.load false 1 (.l 0))), (.i .l (.bin (.int .i64) .eql (.l 0) (.c (.int .i64 0)))), (.i .l (.mv (.l 0))), (.g (.l 0) true .l (.mv (.v 1))), (.g (.l 1) true .l (.len false (some 32) (.l 0))), (.g (.l 2) true .l (.bin (.int .i64) .eql (.l 0) (.c (.int .i64 4)))), (.i .l (.pick (.l 3) (.l 0) (.c (.bool false)))), (.i .l (.mv (.l 0))), (.g (.l 0) true .l (.mv (.v 1))), (.g (.l 1) true .l (.ixa (some 32) none (.l 0) (.c (.int .i64 2)))), (.g (.l 2) true .l (.fad 2 (.l 0))), (.g (.l 3) true .l (.load false 1 (.l 0))), (.i .l (.pick (.l 4) (.l 0) (.c (.bool false)))), (.i .l (.mv (.l 0))), (.g (.l 0) true .l (.mv (.v 1))), (.g (.l 1) true .l (.ixa (some 32) none (.l 0) (.c (.int .i64 2)))), (.g (.l 2) true .l (.fad 3 (.l 0))), (.g (.l 3) true .l (.load false 1 (.l 0))), (.g (.l 4) true .l (.bin (.int .i64) .eql (.l 0) (.c (.int .i64 (-5))))), (.i .l (.pick (.l 5) (.l 0) (.c (.bool false)))), (.i .l (.mv (.l 0))), (.g (.l 0) true .l (.fad 0 (.v 3))), (.g (.l 1) true .l (.load false 1 (.l 0))), (.g (.l 2) true .l (.bin (.int .i64) .eql (.l 0) (.c (.int .i64 0)))), (.i .l (.pick (.l 3) (.l 0) (.c (.bool false)))), (.i .l (.mv (.l 0))), (.g (.l 0) true .l (.fad 0 (.v 4))), (.g (.l 1) true .l (.load false 1 (.l 0))), (.g (.l 2) true .l (.bin (.int .i64) .neq (.l 0) (.c (.int .i64 0)))), (.i .l (.pick (.l 3) (.l 0) (.c (.bool false)))), (.i (.v 0) (.mv (.l 0)))]), .ret]
theorem fn_tokenBegun : FnR Tryd.prog po 9 0 5 [0, 1, 2, 4, 6] rc_tokenBegun [(.v 0)] true := ⟨_, _, Tryd.func9, rfl, rfl, by kernel_rfl, by kernel_rfl, by kernel_rfl, by kernel_rfl, by kernel_rfl⟩
def rc_TokenScans_b1 : List RS := [(.ops [(.i .l (.mv (.v 6))), (.i .l (.mv (.v 2))), (.i .l (.len false (some 32) (.l 0))), (.i (.v 10) (.bin (.int .i64) .lss (.l 2) (.l 0)))]), (.cond (.v 10) [] [(.exit 0)]), (.block 1 [(.ops [(.i .l (.mv (.v 2))), (.i .l (.mv (.v 6))), (.i .l (.ixa (some 32) none (.l 1) (.l 0))), (.i .l (.fad 0 (.l 0))), (.i .l (.load false 1 (.l 0))), (.i .l (.mv (.v 4))), (.i .l (.mv (.v 6))), (.i .l (.ixa (some 33) none (.l 1) (.l 0))), (.i .l (.fad 0 (.l 0))), (.i .l (.load false 1 (.l 0))), (.i .l (.bin (.int .i64) .neq (.l 5) (.l 0))), (.i .l (.mv (.l 0))), (.g (.l 0) false .l (.mv (.v 2))), (.g (.l 1) false .l (.mv (.v 6))), (.g (.l 2) false .l (.ixa (some 32) none (.l 1) (.l 0))), (.g (.l 3) false .l (.fad 1 (.l 0))), (.g (.l 4) false .l (.load false 1 (.l 0))), (.g (.l 5) false .l (.mv (.v 4))), (.g (.l 6) false .l (.mv (.v 6))), (.g (.l 7) false .l (.ixa (some 33) none (.l 1) (.l 0))), (.g (.l 8) false .l (.fad 1 (.l 0))), (.g (.l 9) false .l (.load false 1 (.l 0))), (.g (.l 10) false .l (.bin .str .neq (.l 5) (.l 0))), (.i .l (.pick (.l 11) (.c (.bool true)) (.l 0))), (.i .l (.mv (.l 0))), (.g (.l 0) false .l (.mv (.v 2))), (.g (.l 1) false .l (.mv (.v 6))), (.g (.l 2) false .l (.ixa (some 32) none (.l 1) (.l 0))), (.g (.l 3) false .l (.fad 2 (.l 0))), (.g (.l 4) false .l (.load false 1 (.l 0))), (.g (.l 5) false .l (.mv (.v 4))), (.g (.l 6) false .l (.mv (.v 6))), (.g (.l 7) false .l (.ixa (some 33) none (.l 1) (.l 0))), (.g (.l 8) false .l (.fad 2 (.l 0))), (.g (.l 9) false .l (.load false 1 (.l 0))), (.g (.l 10) false .l (.bin .bool .neq (.l 5) (.l 0))), (.i .l (.pick (.l 11) (.c (.bool true)) (.l 0))), (.i .l (.mv (.l 0))), (.g (.l 0) false .l (.mv (.v 2))), (.g (.l 1) false .l (.mv (.v 6))), (.g (.l 2) false .l (.ixa (some 32) none (.l 1) (.l 0))), (.g (.l 3) false .l (.fad 3 (.l 0))), (.g (.l 4) false .l (.load false 1 (.l 0))), (.g (.l 5) false .l (.mv (.v 4))), (.g (.l 6) false .l (.mv (.v 6))), (.g (.l 7) false .l (.ixa (some 33) none (.l 1) (.l 0))), (.g (.l 8) false .l (.fad 3 (.l 0))), (.g (.l 9) false .l (.load false 1 (.l 0))), (.g (.l 10) false .l (.bin (.int .i64) .neq (.l 5) (.l 0))), (.i (.v 11) (.pick (.l 11) (.c (.bool true)) (.l 0)))]), (.cond (.v 11) [(.ops [(.i (.v 1) (.mv (.c (.bool false))))]), .ret] [])]), (.ops [(.i .l (.mv (.v 6))), (.i .l (.bin (.int .i64) .add (.l 0) (.c (.int .i64 1)))), (.i (.v 6) (.mv (.l 0)))])]
def rc_TokenScans : List RS := [(.ops [(.i (.v 1) (.mv (.c (.bool false))))]), (.ops [(.i .l (.call (.c (.fn 9 [] [])) [])), (.i (.v 7) (.un .not (.l 0)))]), (.cond (.v 7) [(.ops [(.i (.v 1) (.mv (.c (.bool false))))]), .ret] []), (.ops [(.i .l (.mv (.v 0))), (.i .l (.len true none (.l 0))), (.i (.v 8) (.bin (.int .i64) .gtr (.l 0) (.c (.int .i64 9000))))]), (.cond (.v 8) [(.ops [(.i (.v 1) (.mv (.c (.bool true))))]), .ret] []), (.ops [(.i .l (.mv (.v 0))), (.i .l (.call (.c (.fn 10 [] [])) [(.l 0)])), (.i .l (.mv (.l 0))), (.i .l (.ext (.l 0) 0)), (.i .l (.ext (.l 1) 1)), (.i (.v 3) (.alloc [(.int .i64 0), (.int .i64 0)])), (.i (.v 2) (.mv (.l 1))), (.i .n (.store 2 (.v 3) (.l 0)))]), (.ops [(.i .l (.mv (.v 0))), (.i .l (.call (.c (.fn 11 [] [])) [(.l 0)])), (.i .l (.mv (.l 0))), (.i .l (.ext (.l 0) 0)), (.i .l (.ext (.l 1) 1)), (.i (.v 5) (.alloc [(.int .i64 0), (.int .i64 0)])), (.i (.v 4) (.mv (.l 1))), (.i .n (.store 2 (.v 5) (.l 0)))]), (.ops [(.i .l (.load true 2 (.v 3))), (.i .l (.load true 2 (.v 5))), (.i .l (.binG .agg (some [(.int .i64), (.int .i64)]) false .neq (.l 1) (.l 0))), (.i .l (.mv (.l 0))), (.g (.l 0) false .l (.mv (.v 2))), (.g (.l 1) false .l (.len false (some 32) (.l 0))), (.g (.l 2) false .l (.mv (.v 4))), (.g (.l 3) false .l (.len false (some 33) (.l 0))), (.g (.l 4) false .l (.bin (.int .i64) .neq (.l 2) (.l 0))), (.i (.v 9) (.pick (.l 5) (.c (.bool true)) (.l 0)))]), (.cond (.v 9) [(.ops [(.i (.v 1) (.mv (.c (.bool false))))]), .ret] []), (.ops [(.i (.v 6) (.mv (.c (.int .i64 0))))]), (.block 0 [(.loop rc_TokenScans_b1)]), (.ops [(.i (.v 1) (.mv (.c (.bool true))))]), .ret]
theorem fn_TokenScans : FnR Tryd.prog po 3 1 12 [0, 2, 3, 4, 5, 6, 7, 9, 12, 32, 36, 88] rc_TokenScans [(.v 1)] true := ⟨_, _, Tryd.func3, rfl, rfl, by kernel_rfl, by kernel_rfl, by kernel_rfl, by kernel_rfl, by kernel_rfl⟩
def rc_TokenBack_b1 : List RS := [(.ops [(.i .l (.mv (.v 8))), (.i .l (.mv (.v 2))), (.i .l (.len false (some 32) (.l 0))), (.i (.v 14) (.bin (.int .i64) .lss (.l 2) (.l 0)))]), (.cond (.v 14) [] [(.exit 2)]), (.block 3 [(.ops [(.i .l (.mv (.v 6))), (.i .l (.mv (.v 8))), (.i .l (.ixa (some 32) none (.l 1) (.l 0))), (.i .l (.fad 1 (.l 0))), (.i .l (.load false 1 (.l 0))), (.i .l (.mv (.v 2))), (.i .l (.mv (.v 8))), (.i .l (.ixa (some 32) none (.l 1) (.l 0))), (.i .l (.fad 1 (.l 0))), (.i .l (.load false 1 (.l 0))), (.i .l (.bin .str .neq (.l 5) (.l 0))), (.i .l (.mv (.l 0))), (.g (.l 0) false .l (.mv (.v 6))), (.g (.l 1) false .l (.mv (.v 8))), (.g (.l 2) false .l (.ixa (some 32) none (.l 1) (.l 0))), (.g (.l 3) false .l (.fad 2 (.l 0))), (.g (.l 4) false .l (.load false 1 (.l 0))), (.g (.l 5) false .l (.mv (.v 2))), (.g (.l 6) false .l (.mv (.v 8))), (.g (.l 7) false .l (.ixa (some 32) none (.l 1) (.l 0))), (.g (.l 8) false .l (.fad 2 (.l 0))), (.g (.l 9) false .l (.load false 1 (.l 0))), (.g (.l 10) false .l (.bin .bool .neq (.l 5) (.l 0))), (.i .l (.pick (.l 11) (.c (.bool true)) (.l 0))), (.i .l (.mv (.l 0))), (.g (.l 0) false .l (.mv (.v 6))), (.g (.l 1) false .l (.mv (.v 8))), (.g (.l 2) false .l (.ixa (some 32) none (.l 1) (.l 0))), (.g (.l 3) false .l (.fad 3 (.l 0))), (.g (.l 4) false .l (.load false 1 (.l 0))), (.g (.l 5) false .l (.mv (.v 2))), (.g (.l 6) false .l (.mv (.v 8))), (.g (.l 7) false .l (.ixa (some 32) none (.l 1) (.l 0))), (.g (.l 8) false .l (.fad 3 (.l 0))), (.g (.l 9) false .l (.load false 1 (.l 0))), (.g (.l 10) false .l (.bin (.int .i64) .neq (.l 5) (.l 0))), (.i (.v 15) (.pick (.l 11) (.c (.bool true)) (.l 0)))]), (.cond (.v 15) [(.ops [(.i (.v 1) (.mv (.c (.bool false))))]), .ret] [])]), (.ops [(.i .l (.mv (.v 8))), (.i .l (.bin (.int .i64) .add (.l 0) (.c (.int .i64 1)))), (.i (.v 8) (.mv (.l 0)))])]
def rc_TokenBack_b2 : List RS := [(.ops [(.i .l (.mv (.v 5))), (.i .l (.mv (.v 2))), (.i .l (.len false (some 32) (.l 0))), (.i (.v 12) (.bin (.int .i64) .lss (.l 2) (.l 0)))]), (.cond (.v 12) [] [(.exit 0)]), (.block 1 [(.ops [(.i .l (.mv (.v 4))), (.i .l (.mv (.v 2))), (.i .l (.mv (.v 5))), (.i .l (.ixa (some 32) none (.l 1) (.l 0))), (.i .l (.fad 1 (.l 0))), (.i .l (.load false 1 (.l 0))), (.i .l (.bin .str .add (.l 0) (.c (.str [32, 10])))), (.i .l (.bin .str .add (.l 6) (.l 0))), (.i (.v 4) (.mv (.l 0)))])]), (.ops [(.i .l (.mv (.v 5))), (.i .l (.bin (.int .i64) .add (.l 0) (.c (.int .i64 1)))), (.i (.v 5) (.mv (.l 0)))])]
def rc_TokenBack : List RS := [(.ops [(.i (.v 1) (.mv (.c (.bool false))))]), (.ops [(.i .l (.call (.c (.fn 9 [] [])) [])), (.i (.v 9) (.un .not (.l 0)))]), (.cond (.v 9) [(.ops [(.i (.v 1) (.mv (.c (.bool false))))]), .ret] []), (.ops [(.i .l (.mv (.v 0))), (.i .l (.len true none (.l 0))), (.i (.v 10) (.bin (.int .i64) .gtr (.l 0) (.c (.int .i64 2000))))]), (.cond (.v 10) [(.ops [(.i (.v 1) (.mv (.c (.bool true))))]), .ret] []), (.ops [(.i .l (.mv (.v 0))), (.i .l (.call (.c (.fn 10 [] [])) [(.l 0)])), (.i .l (.mv (.l 0))), (.i .l (.ext (.l 0) 0)), (.i .l (.ext (.l 1) 1)), (.i (.v 3) (.alloc [(.int .i64 0), (.int .i64 0)])), (.i (.v 2) (.mv (.l 1))), (.i .n (.store 2 (.v 3) (.l 0)))]), (.ops [(.i .l (.fad 0 (.v 3))), (.i .l (.load false 1 (.l 0))), (.i (.v 11) (.bin (.int .i64) .neq (.l 0) (.c (.int .i64 0))))]), (.cond (.v 11) [(.ops [(.i .l (.mv (.v 2))), (.i .l (.len false (some 32) (.l 0))), (.i .l (.bin (.int .i64) .eql (.l 0) (.c (.int .i64 0)))), (.i (.v 1) (.mv (.l 0)))]), .ret] []), (.ops [(.i (.v 4) (.mv (.c (.str []))))]), (.ops [(.i (.v 5) (.mv (.c (.int .i64 0))))]), (.block 0 [(.loop rc_TokenBack_b2)]), (.ops [(.i .l (.mv (.v 4))), (.i .l (.call (.c (.fn 10 [] [])) [(.l 0)])), (.i .l (.mv (.l 0))), (.i .l (.ext (.l 0) 0)), (.i .l (.ext (.l 1) 1)), (.i (.v 7) (.alloc [(.int .i64 0), (.int .i64 0)])), (.i (.v 6) (.mv (.l 1))), (.i .n (.store 2 (.v 7) (.l 0)))]), (.ops [(.i .l (.fad 0 (.v 7))), (.i .l (.load false 1 (.l 0))), (.i .l (.bin (.int .i64) .neq (.l 0) (.c (.int .i64 0)))), (.i .l (.mv (.l 0))), (.g (.l 0) false .l (.mv (.v 6))), (.g (.l 1) false .l (.len false (some 32) (.l 0))), (.g (.l 2) false .l (.mv (.v 2))), (.g (.l 3) false .l (.len false (some 32) (.l 0))), (.g (.l 4) false .l (.bin (.int .i64) .neq (.l 2) (.l 0))), (.i (.v 13) (.pick (.l 5) (.c (.bool true)) (.l 0)))]), (.cond (.v 13) [(.ops [(.i (.v 1) (.mv (.c (.bool false))))]), .ret] []), (.ops [(.i (.v 8) (.mv (.c (.int .i64 0))))]), (.block 2 [(.loop rc_TokenBack_b1)]), (.ops [(.i (.v 1) (.mv (.c (.bool true))))]), .ret]
theorem fn_TokenBack : FnR Tryd.prog po 4 1 16 [0, 2, 3, 4, 5, 6, 7, 8, 9, 11, 14, 22, 29, 54, 58, 97] rc_TokenBack [(.v 1)] true := ⟨_, _, Tryd.func4, rfl, rfl, by kernel_rfl, by kernel_rfl, by kernel_rfl, by kernel_rfl, by kernel_rfl⟩
end Go.Proofs.YtngphebjmmencaaDoor
namespace Go.Proofs.YtngphebjmmencaaDoor
set_option linter.unusedSimpArgs false
set_option linter.unusedVariables false
open Go

theorem s_add {a b c : List UInt8} (e : a ++ b = c) (h : a.length + b.length ≤ 1000000000000) : binA .str .add (.str a) (.str b) = some (.str c) := by
  subst e
  exact if_pos h
theorem fmt_run {n : Int} (hn : isI64 n) (h : AH) : runF Tryd.prog po 50 [.int .i64 n, .int .i64 10] h = some (.inl (.str (Lib.itoa n)), h) := by
  unfold runF
  rw [ext_fmt]
  show fmtF _ _ = _
  unfold fmtF
  exact if_pos ⟨rfl, hn.1, hn.2⟩
end Go.Proofs.YtngphebjmmencaaDoor
namespace Go.Proofs.YtngphebjmmencaaDoor
set_option linter.unusedSimpArgs false
set_option linter.unusedVariables false
open Go Go.RowKit

/-- nothing of its own yet; what lies there stays -/
def h0A : AH := { n := 0, cell := fun _ => none, ids := 0, hw := fun _ => 0 }
def m0A (W : World) : Mm := { base := W.heap.size, blk := fun _ => 0, bt := fun _ => 0, bsz := fun _ => 0, imm := fun g o => W.cell? ⟨g, o, none⟩, tg := fun _ => 0, tc := fun _ => 0, te := fun _ => 0 }
theorem good_none {P : Program} {b : Nat} {w : World} (h : keptA P = [] ∧ errsA P = []) : GoodW P b w := by
  refine ⟨fun q hq => ?_, fun n hn => ?_⟩
  · rw [h.1] at hq
    cases hq
  · rw [h.2] at hn
    cases hn
theorem wr0 (P : Program) (W : World) (hg : GoodW P W.heap.size W) : WR P (m0A W) h0A W where
  good := hg
  size := Nat.le_refl _
  lt := fun b es hb => by simp [h0A] at hb
  live := fun b es hb => by simp [h0A] at hb
  inj := fun b b' es es' hb => by simp [h0A] at hb
  imm := fun g o v h => h
  sep := fun b es hb => by simp [h0A] at hb
  tip := fun k hk => absurd hk (Nat.not_lt_zero _)
  tfree := fun k hk => absurd hk (Nat.not_lt_zero _)
  tblk := fun k hk => absurd hk (Nat.not_lt_zero _)
  tinj := fun k k' hk => absurd hk (Nat.not_lt_zero _)

theorem law_of {f : FuncId} {avs : List AV} {vs : List Value} {W : World} {h' : AH} (hr : runF Tryd.prog po f avs h0A = some (.inl (.bool true), h')) (hv : VRs Tryd.prog (m0A W) h0A avs vs) (hg : GoodW Tryd.prog W.heap.size W := by exact good_none ⟨by kernel_rfl, by kernel_rfl⟩) : Law Tryd.prog f vs.toArray W := by
  refine (runF_sound pok hr (m0A W) W vs (wr0 _ W hg) hv).mono fun e W' ⟨m', _, _, hb, hx⟩ => ?_
  obtain ⟨u, rfl, hu⟩ := hx
  cases hu
  exact ⟨rfl, hb⟩

theorem vr_int {P : Program} {m : Mm} {h : AH} (n : Int) : VR P m h (.int .i64 n) (.int .i64 n) := .int _ _
theorem vr_str {P : Program} {m : Mm} {h : AH} (s : ByteArray) : VR P m h (.str s.data.toList) (.string s) := by
  have := VR.str (P := P) (m := m) (h := h) s.data.toList
  simpa using this
abbrev i64r (l : List Int) : List AV := l.map (.int .i64)
/-- rows of numbers that were handed in -/
def inA (e : TypeId) (A : Option Addr) (rows : List (List Int)) : AV := match A with
  | none => .nils
  | some _ => .isl none e (rows.map i64r)
theorem vr_rows {P : Program} {W : World} {e : TypeId} {k : Nat} (he : P.cellsOf e = k) {A : Option Addr} {n cap : Nat} {rows : List (List Int)} (hn : rows.length = n) (hk : ∀ x ∈ rows, x.length = k) (hs : Sl W k A n cap (rows.flatMap icells)) :
    VR P (m0A W) h0A (inA e A rows) (.slice A n cap) ∧ IsL e (inA e A rows) (rows.map i64r) := by
  subst hn
  obtain ⟨h1, h2, h3, h4⟩ := hs
  cases A with
  | none =>
    have h6 := h3 rfl
    have hr : rows = [] := List.length_eq_zero_iff.1 (by omega)
    subst hr
    subst h6
    exact ⟨.nils, isL_nils e⟩
  | some a =>
    obtain ⟨h5, h6⟩ := h4 a rfl
    refine ⟨?_, isL_isl _ _ _⟩
    have hl : ∀ r ∈ rows.map i64r, r.length = P.cellsOf e := by
      intro r hr
      obtain ⟨x, hx, rfl⟩ := List.mem_map.1 hr
      rw [he, List.length_map]
      exact hk x hx
    by_cases hz : rows = []
    · subst hz
      exact .isl0 e a cap
    · have hpos : 0 < rows.length := List.length_pos_iff.2 hz
      have hsp := h5 hpos
      have hlen : (rows.map i64r).length = rows.length := by simp
      have ha : a = ⟨a.block, a.off, none⟩ := by
        obtain ⟨b, o, sp⟩ := a
        simp at hsp
        subst hsp
        rfl
      have hflat : ∀ i (hi : i < rows.length) j, j < k → (rows.flatMap icells)[i * k + j]? = some (.int .i64 ((rows[i].getD j 0))) := by
        intro i hi j hj
        have hx : ∀ x ∈ rows, (icells x).length = k := fun x hx => by simp [hk x hx]
        have hr := hk _ (List.getElem_mem hi)
        rw [flat_get' rows hx hi hj]
        simp [List.getD, hr, hj]
      have := VR.isl (P := P) (m := m0A W) (h := h0A) none e (rows.map i64r) a.block a.off cap (fun i j => .int .i64 ((rows.getD i []).getD j 0)) hl (fun i hi j hj => ?_) (fun i hi j hj => ?_) (by rw [hlen]; exact h2) (fun q hq => by cases hq)
      · rw [hlen, ← ha] at this
        exact this
      · rw [hlen] at hi
        rw [he] at hj ⊢
        have h7 := h6 _ _ (hflat i hi j hj)
        show W.cell? _ = _
        rw [h7]
        simp [List.getD, hi]
      · rw [hlen] at hi
        simp only [List.getElem_map] at hj ⊢
        simp only [List.length_map] at hj
        have hr : (rows.getD i []).getD j 0 = rows[i][j] := by simp [List.getD, hi, hj]
        rw [hr]
        exact .int _ _
end Go.Proofs.YtngphebjmmencaaDoor
namespace Go.Proofs.YtngphebjmmencaaDoor
set_option linter.unusedSimpArgs false
set_option linter.unusedVariables false
open Go

section
variable {P : Program} {po : Pol} {g : FuncId} {a nv : Nat} {vm : List Nat} {ss : List RS} {rs : List RRes} {args : List AV} {h : AH}
/-- a call: what holds of its end -/
theorem runF_Q {p : Bool} {Post : (AV ⊕ AV) × AH → Prop} (hf : FnR P po g a nv vm ss rs p) (ha : args.length = a)
    (H : ∀ Q : RRun → Prop, (∀ r q, cFR p rs h r = some q → Post q → Q r) → Q (runR (runF P po) nv [.ss ss] (args ++ List.replicate (vm.length - args.length) .junk) [] h)) :
    ∃ q, runF P po g args h = some q ∧ Post q := by
  obtain ⟨q, h1, h2⟩ := H (fun r => ∃ q, cFR p rs h r = some q ∧ Post q) (fun r q h1 h2 => ⟨q, h1, h2⟩)
  exact ⟨q, runF_R hf ha h1, h2⟩
/-- .. of one whose memory stays -/
theorem runF_I {v : AV} {R : AH → Prop} (hf : FnR P po g a nv vm ss rs false) (ha : args.length = a)
    (H : ∀ Q : RRun → Prop, (∀ V h', (resR V h' rs).map oneA = some v → R h' → Q (some (.ret, V, h'))) → Q (runR (runF P po) nv [.ss ss] (args ++ List.replicate (vm.length - args.length) .junk) [] h)) :
    ∃ h', runF P po g args h = some (.inl v, h') ∧ R h' := by
  obtain ⟨q, h1, h', rfl, h2⟩ := runF_Q (Post := fun q => ∃ h', q = (.inl v, h') ∧ R h') hf ha fun Q hQ => H Q fun V h' e r => hQ _ (.inl v, h') (by simp only [cFR_ret, e, cR_some, fg_not]) ⟨h', rfl, r⟩
  exact ⟨h', h1, h2⟩
/-- .. with some value -/
theorem runF_J {R : AV → AH → Prop} (hf : FnR P po g a nv vm ss rs false) (ha : args.length = a)
    (H : ∀ Q : RRun → Prop, (∀ V h' v, (resR V h' rs).map oneA = some v → R v h' → Q (some (.ret, V, h'))) → Q (runR (runF P po) nv [.ss ss] (args ++ List.replicate (vm.length - args.length) .junk) [] h)) :
    ∃ v h', runF P po g args h = some (.inl v, h') ∧ R v h' := by
  obtain ⟨q, h1, v, h', rfl, h2⟩ := runF_Q (Post := fun q => ∃ v h', q = (.inl v, h') ∧ R v h') hf ha fun Q hQ => H Q fun V h' v e r => hQ _ (.inl v, h') (by simp only [cFR_ret, e, cR_some, fg_not]) ⟨v, h', rfl, r⟩
  exact ⟨v, h', h1, h2⟩
/-- .. of one whose memory is forgotten -/
theorem runF_V {R : AV → Prop} (hf : FnR P po g a nv vm ss rs true) (ha : args.length = a)
    (H : ∀ Q : RRun → Prop, (∀ V h' v v', (resR V h' rs).map oneA = some v → GrewA h h' → wkA v = some v' → R v' → Q (some (.ret, V, h'))) → Q (runR (runF P po) nv [.ss ss] (args ++ List.replicate (vm.length - args.length) .junk) [] h)) :
    ∃ v, runF P po g args h = some (.inl v, h) ∧ R v := by
  obtain ⟨q, h1, v, rfl, h2⟩ := runF_Q (Post := fun q => ∃ v, q = (.inl v, h) ∧ R v) hf ha fun Q hQ => H Q fun V h' v v' e hg w r => hQ _ (.inl v', h) (by simp only [cFR_ret, e, cR_some]; exact fg_yes hg w) ⟨v', rfl, r⟩
  exact ⟨v, h1, h2⟩
theorem runF_E {v' : AV} (hf : FnR P po g a nv vm ss rs true) (ha : args.length = a)
    (H : ∀ Q : RRun → Prop, (∀ V h' v, (resR V h' rs).map oneA = some v → GrewA h h' → wkA v = some v' → Q (some (.ret, V, h'))) → Q (runR (runF P po) nv [.ss ss] (args ++ List.replicate (vm.length - args.length) .junk) [] h)) :
    runF P po g args h = some (.inl v', h) := by
  obtain ⟨v, h1, rfl⟩ := runF_V (R := fun v => v = v') hf ha fun Q hQ => H Q fun V h' v e hg w => hQ V h' v v' e hg w rfl
  exact h1
end

section
variable {P : Program} {po : Pol} {g : FuncId} {a nv : Nat} {vm : List Nat} {ss : List RS} {rs : List RRes} {args : List AV} {h : AH}
/-- a call whose memory stays: what holds of its end, or of its panic -/
theorem runF_W {Post : (AV ⊕ AV) → AH → Prop} (hf : FnR P po g a nv vm ss rs false) (ha : args.length = a)
    (H : ∀ Q : RRun → Prop, (∀ V h' v, (resR V h' rs).map oneA = some v → Post (.inl v) h' → Q (some (.ret, V, h'))) → (∀ V h' v, Post (.inr v) h' → Q (some (.panic v, V, h'))) → Q (runR (runF P po) nv [.ss ss] (args ++ List.replicate (vm.length - args.length) .junk) [] h)) :
    ∃ q h', runF P po g args h = some (q, h') ∧ Post q h' := by
  obtain ⟨⟨q, h'⟩, e, p⟩ := runF_Q (Post := fun q => Post q.1 q.2) hf ha fun Q hQ => H Q (fun V h' v e r => hQ _ (.inl v, h') (by simp only [cFR_ret, e, cR_some, fg_not]) r) (fun V h' v r => hQ _ (.inr v, h') (by simp only [cFR_panic, fg_not]) r)
  exact ⟨q, h', e, p⟩
end
/-- a loop: what holds at the round i; in the end, or in the middle of it, what is asked holds -/
theorem loop_Q {C : CallR} {nv : Nat} {b : List RS} {K : List RK} {V : List AV} {h : AH} {Q : RRun → Prop} (I : Nat → List AV → AH → Prop) (n : Nat) (h0 : I 0 V h)
    (step : ∀ i V h, i < n → I i V h → (∀ V' h', I (i + 1) V' h' → Q (runR C nv (.lp b :: K) V' [] h')) → Q (runR C nv (.lp b :: K) V [] h))
    (stop : ∀ V h, I n V h → Q (runR C nv (.lp b :: K) V [] h)) : Q (runR C nv (.lp b :: K) V [] h) := by
  have key : ∀ (d i : Nat) (V : List AV) (h : AH), i + d = n → I i V h → Q (runR C nv (.lp b :: K) V [] h) := by
    intro d
    induction d with
    | zero =>
      intro i V h hi hI
      obtain rfl : i = n := by omega
      exact stop V h hI
    | succ d ih => exact fun i V h hi hI => step i V h (by omega) hI fun V' h' hI' => ih (i + 1) V' h' (by omega) hI'
  exact key n 0 V h (by omega) h0
/-- .. with a measure -/
theorem loop_M {C : CallR} {nv : Nat} {b : List RS} {K : List RK} {V : List AV} {h : AH} {Q : RRun → Prop} (I : Nat → List AV → AH → Prop) (n : Nat) (h0 : I n V h)
    (step : ∀ n V h, I n V h → (∀ n' V' h', n' < n → I n' V' h' → Q (runR C nv (.lp b :: K) V' [] h')) → Q (runR C nv (.lp b :: K) V [] h)) : Q (runR C nv (.lp b :: K) V [] h) := by
  induction n using Nat.strongRecOn generalizing V h with
  | ind n ih => exact step n V h h0 fun n' V' h' hlt hI => ih n' hlt hI

theorem lt_s {a n : Nat} (h : a < n) : (a < n + 1) = True := by simp; omega
theorem lt_self {n : Nat} : (n < n + 1) = True := by simp
theorem set_mid {α : Type} (A B : List α) (x y : α) {n : Nat} (hn : n = A.length) : (A ++ x :: B).set n y = A ++ y :: B := by subst hn; simp
theorem get_mid {α : Type} (A B : List α) (x : α) {n : Nat} (hn : n = A.length) : (A ++ x :: B)[n]? = some x := by subst hn; simp
theorem decI {p : Prop} [Decidable p] (h : p) : decide p = true := decide_eq_true h
theorem decN {p : Prop} [Decidable p] (h : ¬ p) : decide p = false := decide_eq_false h
theorem take_get {α : Type} {l : List α} {i : Nat} {y : α} (h : l[i]? = some y) : l.take (i + 1) = l.take i ++ [y] := by
  rw [List.take_add_one, h]
  rfl
theorem w64' {n m : Int} (e : n = m) (h1 : -9223372036854775808 ≤ n) (h2 : n ≤ 9223372036854775807) : IntKind.wrap .i64 n = m := by rw [← e]; exact w64 h1 h2
theorem acc_apps {h0 h : AH} {e : TypeId} {v : AV} {acc : List (List AV)} (ha : Acc h0 h e v acc) (g : GrewA h0 h) {x : AV} {rows : List (List AV)} (hx : (x = .nils ∧ rows = []) ∨ ∃ id, x = .isl id e rows) (h1 : ∀ r ∈ rows, r.all AV.one = true) (hl : acc.length ≤ 1000000) (hr : rows.length ≤ 1000000) :
    ∃ v' h', appendA false e v x h = some (v', h') ∧ Acc h0 h' e v' (acc ++ rows) ∧ GrewA h0 h' ∧ h'.cell = h.cell ∧ h'.n = h.n := by
  have h1' : rows.all (·.all AV.one) = true := by rw [List.all_eq_true]; exact h1
  by_cases hz : rows.length = 0
  · have hz' := List.length_eq_zero_iff.1 hz
    subst hz'
    refine ⟨v, h, ?_, by simpa using ha, g, rfl, rfl⟩
    have hs : sameA e v h = some (v, h) := by
      rcases ha with ⟨_, rfl⟩ | ⟨id, _, _, _, _, rfl⟩ <;> simp [sameA]
    rcases hx with ⟨rfl, _⟩ | ⟨id, rfl⟩
    · exact hs
    · simp [appendA, elemsA, hs]
  · obtain ⟨id2, rfl⟩ : ∃ id, x = .isl id e rows := by
      rcases hx with ⟨_, rfl⟩ | hx
      · simp at hz
      · exact hx
    have e1 : appendA false e v (.isl id2 e rows) h = moreA false e v rows h := by
      simp only [appendA, elemsA, if_true, Option.bind_some]
      rw [if_neg hz]
    rw [e1]
    unfold moreA
    rw [if_pos ⟨by omega, by omega, h1'⟩]
    have hne : rows ≠ [] := fun e => hz (by rw [e]; rfl)
    rcases ha with ⟨rfl, rfl⟩ | ⟨id, a0, a1, a2, a3, rfl⟩
    · refine ⟨_, _, rfl, .inr ⟨h.ids, by simpa using hne, g.ids, by simp [AH.fresh], by simp [AH.fresh], by simp⟩, g.trans (GrewA.fresh _ _), rfl, rfl⟩
    · refine ⟨.isl (some id) e (acc ++ rows), h.grow id (acc.length + rows.length), ?_, .inr ⟨id, by simp [a0], a1, a2, by simp [AH.grow], rfl⟩, g.grow a1, rfl, rfl⟩
      simp [a3, hl]
theorem lst_app (e : TypeId) (rows : List (List AV)) : (lstA e rows = .nils ∧ rows = []) ∨ ∃ id, lstA e rows = .isl id e rows := by
  unfold lstA
  by_cases hz : rows = []
  · exact .inl ⟨by rw [if_pos hz], hz⟩
  · exact .inr ⟨none, by rw [if_neg hz]⟩

theorem ints_one (l : List Int) : ∀ r ∈ intsA l, r.all AV.one = true := by
  intro r hr
  obtain ⟨n, _, rfl⟩ := List.mem_map.1 hr
  rfl

/-- a function that is a value -/
def calF (f : AV) (xs : List AV) : Option (FuncId × List AV) := match f with
  | .fn g a c => some (g, a ++ xs ++ c)
  | _ => none
section
variable {C : CallR} {nv : Nat} {k : List RK} {V L : List AV} {h : AH} {d : RD} {is : List RI}
theorem callee_eq {f : Arg} {args : List Arg} : calleeR V L (.call f args) = calF (arg V L f) (args.map (arg V L)) := by
  simp only [calleeR]
  cases arg V L f <;> rfl
theorem calF_fn {g : FuncId} {a c xs : List AV} : calF (.fn g a c) xs = some (g, a ++ xs ++ c) := rfl
theorem rF_some {g : FuncId} {xs : List AV} : rF C nv d is k V L h (some (g, xs)) = rC C nv d is k V L (C g xs h) := rfl
theorem calls : (type_of% @r_call) ∧ (type_of% @callee_eq) ∧ (type_of% @calF_fn) ∧ (type_of% @rF_some) := ⟨@r_call, @callee_eq, @calF_fn, @rF_some⟩
end
end Go.Proofs.YtngphebjmmencaaDoor
namespace Go.Proofs.YtngphebjmmencaaDoor
set_option linter.unusedSimpArgs false
set_option linter.unusedVariables false
open Go

abbrev tTk : TypeId := 32
abbrev tRk : TypeId := 33
def TD.row (t : TD) : List AV := [.int .i64 (t.at' : Nat), .str t.text, .bool t.num, .int .i64 t.n]
theorem ix_str {s : List UInt8} {i : Nat} {c : UInt8} {q : IntKind} {ar : Option (Nat × Nat × Bool)} (h : s[i]? = some c) : ixR true ar (.str s) (.int q (i : Int)) = some (.int .u8 c.toNat) := by simp [ixR, h]
theorem slc_str {s : List UInt8} {l r : Nat} {q q' : IntKind} (h1 : l ≤ r) (h2 : r ≤ s.length) : sliceA (.str s) (some (.int q (l : Int))) (some (.int q' (r : Int))) = some (.str ((s.drop l).take (r - l))) := by
  simp only [sliceA, loA, hiA, lenA, cutA, Option.bind_some, Int.toNat_natCast]
  rw [if_pos ⟨by omega, by omega, by omega⟩]
theorem u8_eq (c : UInt8) (k : Nat) (hk : k < 256) : decide ((c.toNat : Int) = (k : Int)) = decide (c = UInt8.ofNat k) := by
  refine decide_eq_decide.2 ⟨fun h => ?_, fun h => ?_⟩
  · have : c.toNat = k := by omega
    rw [← this]
    simp
  · rw [h, UInt8.toNat_ofNat']
    omega
theorem u8_ge (c : UInt8) (k : Nat) (hk : k < 256) : decide ((k : Int) ≤ (c.toNat : Int)) = decide (UInt8.ofNat k ≤ c) := by
  refine decide_eq_decide.2 ?_
  rw [UInt8.le_iff_toNat_le, UInt8.toNat_ofNat']
  omega
theorem u8_le (c : UInt8) (k : Nat) (hk : k < 256) : decide ((c.toNat : Int) ≤ (k : Int)) = decide (c ≤ UInt8.ofNat k) := by
  refine decide_eq_decide.2 ?_
  rw [UInt8.le_iff_toNat_le, UInt8.toNat_ofNat']
  omega

section
variable {h : AH}
theorem tletter_run (c : UInt8) : runF Tryd.prog po 47 [.int .u8 c.toNat] h = some (.inl (.bool (letB c)), h) := by
  have e1 : decide ((97 : Int) ≤ (c.toNat : Int)) = decide (97 ≤ c) := u8_ge c 97 (by decide)
  have e2 : decide ((c.toNat : Int) ≤ 122) = decide (c ≤ 122) := u8_le c 122 (by decide)
  have e : letB c = (decide (97 ≤ c) && decide (c ≤ 122)) := rfl
  rw [e]
  refine runF_E fn_tletter rfl fun Q hQ => ?_; unfold rc_tletter
  cases h1 : decide (97 ≤ c) <;> cases h2 : decide (c ≤ 122) <;> (rw [h1, h2] at hQ; simp only [sim, simB, Nat.reduceAdd, Nat.reduceSub, List.replicate, reduceCtorEq, Nat.reduceLeDiff, Nat.reduceLT, clearA, e1, e2, h1, h2]; exact hQ _ _ _ rfl (GrewA.refl _) rfl)
theorem tdigit_run (c : UInt8) : runF Tryd.prog po 48 [.int .u8 c.toNat] h = some (.inl (.bool (digB c)), h) := by
  have e1 : decide ((48 : Int) ≤ (c.toNat : Int)) = decide (48 ≤ c) := u8_ge c 48 (by decide)
  have e2 : decide ((c.toNat : Int) ≤ 57) = decide (c ≤ 57) := u8_le c 57 (by decide)
  have e : digB c = (decide (48 ≤ c) && decide (c ≤ 57)) := rfl
  rw [e]
  refine runF_E fn_tdigit rfl fun Q hQ => ?_; unfold rc_tdigit
  cases h1 : decide (48 ≤ c) <;> cases h2 : decide (c ≤ 57) <;> (rw [h1, h2] at hQ; simp only [sim, simB, Nat.reduceAdd, Nat.reduceSub, List.replicate, reduceCtorEq, Nat.reduceLeDiff, Nat.reduceLT, clearA, e1, e2, h1, h2]; exact hQ _ _ _ rfl (GrewA.refl _) rfl)
theorem isLetter_run (c : UInt8) : runF Tryd.prog po 28 [.int .u8 c.toNat] h = some (.inl (.bool (letB c)), h) := by
  have e1 : decide ((97 : Int) ≤ (c.toNat : Int)) = decide (97 ≤ c) := u8_ge c 97 (by decide)
  have e2 : decide ((c.toNat : Int) ≤ 122) = decide (c ≤ 122) := u8_le c 122 (by decide)
  have e : letB c = (decide (97 ≤ c) && decide (c ≤ 122)) := rfl
  rw [e]
  refine runF_E fn_isLetter rfl fun Q hQ => ?_; unfold rc_isLetter
  cases h1 : decide (97 ≤ c) <;> cases h2 : decide (c ≤ 122) <;> (rw [h1, h2] at hQ; simp only [sim, simB, Nat.reduceAdd, Nat.reduceSub, List.replicate, reduceCtorEq, Nat.reduceLeDiff, Nat.reduceLT, clearA, e1, e2, h1, h2]; exact hQ _ _ _ rfl (GrewA.refl _) rfl)
theorem isDigit_run (c : UInt8) : runF Tryd.prog po 29 [.int .u8 c.toNat] h = some (.inl (.bool (digB c)), h) := by
  have e1 : decide ((48 : Int) ≤ (c.toNat : Int)) = decide (48 ≤ c) := u8_ge c 48 (by decide)
  have e2 : decide ((c.toNat : Int) ≤ 57) = decide (c ≤ 57) := u8_le c 57 (by decide)
  have e : digB c = (decide (48 ≤ c) && decide (c ≤ 57)) := rfl
  rw [e]
  refine runF_E fn_isDigit rfl fun Q hQ => ?_; unfold rc_isDigit
  cases h1 : decide (48 ≤ c) <;> cases h2 : decide (c ≤ 57) <;> (rw [h1, h2] at hQ; simp only [sim, simB, Nat.reduceAdd, Nat.reduceSub, List.replicate, reduceCtorEq, Nat.reduceLeDiff, Nat.reduceLT, clearA, e1, e2, h1, h2]; exact hQ _ _ _ rfl (GrewA.refl _) rfl)
/-- a blank, as its four signs -/
theorem blank_eq (c : UInt8) : blankB c = (decide (c = 32) || (decide (c = 9) || (decide (c = 10) || decide (c = 13)))) := rfl
theorem tblank_run (c : UInt8) : runF Tryd.prog po 25 [.int .u8 c.toNat] h = some (.inl (.bool (blankB c)), h) := by
  have e1 : decide ((c.toNat : Int) = 32) = decide (c = 32) := u8_eq c 32 (by decide)
  have e2 : decide ((c.toNat : Int) = 9) = decide (c = 9) := u8_eq c 9 (by decide)
  have e3 : decide ((c.toNat : Int) = 10) = decide (c = 10) := u8_eq c 10 (by decide)
  have e4 : decide ((c.toNat : Int) = 13) = decide (c = 13) := u8_eq c 13 (by decide)
  rw [blank_eq]
  refine runF_E fn_tblank rfl fun Q hQ => ?_; unfold rc_tblank
  cases h1 : decide (c = 32) <;> cases h2 : decide (c = 9) <;> cases h3 : decide (c = 10) <;> cases h4 : decide (c = 13) <;> (rw [h1, h2, h3, h4] at hQ; simp only [sim, simB, Nat.reduceAdd, Nat.reduceSub, List.replicate, reduceCtorEq, Nat.reduceLeDiff, Nat.reduceLT, clearA, e1, e2, e3, e4, h1, h2, h3, h4]; exact hQ _ _ _ rfl (GrewA.refl _) rfl)

/-- how far such bytes go on -/
theorem tw_at {f : UInt8 → Bool} : ∀ (l : List UInt8) (i : Nat), i < (l.takeWhile f).length → ∃ c, l[i]? = some c ∧ f c = true
  | [], i, h => by simp at h
  | c :: l, i, h => by
    rw [List.takeWhile_cons] at h
    split at h
    · rename_i hc
      cases i with
      | zero => exact ⟨c, rfl, hc⟩
      | succ i => exact tw_at l i (by simpa using h)
    · simp at h
theorem tw_end {f : UInt8 → Bool} : ∀ (l : List UInt8), (l.takeWhile f).length = l.length ∨ ∃ c, l[(l.takeWhile f).length]? = some c ∧ f c = false
  | [] => .inl rfl
  | c :: l => by
    rw [List.takeWhile_cons]
    split
    · rcases tw_end (f := f) l with h | ⟨d, h1, h2⟩
      · exact .inl (by simp [h])
      · exact .inr ⟨d, by simpa using h1, h2⟩
    · rename_i hc
      exact .inr ⟨c, rfl, by simpa using hc⟩
theorem trun_run {g : FuncId} {f : UInt8 → Bool} (hg : ∀ (c : UInt8) (h : AH), runF Tryd.prog po g [.int .u8 c.toNat] h = some (.inl (.bool (f c)), h)) (s : List UInt8) (a : Nat) (ha : a ≤ s.length) (hs : s.length ≤ 1000000) :
    runF Tryd.prog po 24 [.str s, .int .i64 (a : Int), .fn g [] []] h = some (.inl (.int .i64 (((s.drop a).takeWhile f).length : Nat)), h) := by
  have hin := tw_at (f := f) (s.drop a)
  have hend := tw_end (f := f) (s.drop a)
  have hle : ((s.drop a).takeWhile f).length ≤ (s.drop a).length := (List.takeWhile_sublist _).length_le
  have hdl : (s.drop a).length = s.length - a := List.length_drop
  generalize ((s.drop a).takeWhile f).length = n at hin hend hle ⊢
  refine runF_E fn_trun rfl fun Q hQ => ?_; unfold rc_trun
  simp only [sim, simB, Nat.reduceAdd, Nat.reduceSub, List.replicate, reduceCtorEq, Nat.reduceLeDiff, Nat.reduceLT, clearA]
  refine loop_Q (fun i V h' => ∃ w5, V = [.str s, .int .i64 (a : Int), .fn g [] [], .int .i64 0, .int .i64 (i : Nat), w5] ∧ h' = h) n ⟨_, rfl, rfl⟩ ?_ ?_
  · rintro i V h' hi ⟨w5, rfl, rfl⟩ next
    obtain ⟨c, hc, hfc⟩ := hin i hi
    rw [List.getElem?_drop] at hc
    have w1 : IntKind.wrap .i64 ((a : Int) + (i : Int)) = ((a + i : Nat) : Int) := w64' (by omega) (by omega) (by omega)
    have w2 : IntKind.wrap .i64 ((i : Int) + 1) = ((i + 1 : Nat) : Int) := w64' (by omega) (by omega) (by omega)
    have hlt : ((a + i : Nat) : Int) < (s.length : Int) := by omega
    rw [r_lpb rc_trun_b1.eq_1]
    simp only [sim, simB, Nat.reduceAdd, Nat.reduceSub, List.replicate, reduceCtorEq, Nat.reduceLeDiff, Nat.reduceLT, clearA, calls, w1, w2, hlt, ix_str hc, hg, hfc]
    exact next _ _ ⟨_, rfl, rfl⟩
  · rintro V h' ⟨w5, rfl, rfl⟩
    have w1 : IntKind.wrap .i64 ((a : Int) + (n : Int)) = ((a + n : Nat) : Int) := w64' (by omega) (by omega) (by omega)
    rcases hend with he | ⟨c, hc, hfc⟩
    · have hlt : ¬ ((a + n : Nat) : Int) < (s.length : Int) := by omega
      rw [r_lpb rc_trun_b1.eq_1]
      simp only [sim, simB, Nat.reduceAdd, Nat.reduceSub, List.replicate, reduceCtorEq, Nat.reduceLeDiff, Nat.reduceLT, clearA, calls, w1, hlt]
      exact hQ _ _ _ rfl (GrewA.refl _) rfl
    · rw [List.getElem?_drop] at hc
      have hlt : ((a + n : Nat) : Int) < (s.length : Int) := by
        have := (List.getElem?_eq_some_iff.1 hc).1
        omega
      rw [r_lpb rc_trun_b1.eq_1]
      simp only [sim, simB, Nat.reduceAdd, Nat.reduceSub, List.replicate, reduceCtorEq, Nat.reduceLeDiff, Nat.reduceLT, clearA, calls, w1, hlt, ix_str hc, hg, hfc]
      exact hQ _ _ _ rfl (GrewA.refl _) rfl

/-! ### a number's text -/
theorem pint_run {t : List UInt8} (ht : t.length ≤ 1000000000) : runF Tryd.prog po 49 [.str t, .int .i64 10, .int .i64 64] h = some (.inl (match Lib.parseIntB 64 t with
    | .ok n => .tup [.int .i64 n, .nili]
    | _ => .tup [.junk, .iface 112 .junk]), h) := by
  unfold runF
  rw [ext_pint]
  show pintF _ _ = _
  unfold pintF
  exact if_pos ⟨rfl, rfl, ht⟩
theorem long_cases (t : List UInt8) (ht : t.length ≤ 1000000000) :
    (∃ n, isI64 n ∧ (∀ h, runF Tryd.prog po 49 [.str t, .int .i64 10, .int .i64 64] h = some (.inl (.tup [.int .i64 n, .nili]), h)) ∧ longD t = if Lib.itoa n = t then some n else none) ∨
    ((∀ h, runF Tryd.prog po 49 [.str t, .int .i64 10, .int .i64 64] h = some (.inl (.tup [.junk, .iface 112 .junk]), h)) ∧ longD t = none) := by
  have hp := fun h => pint_run (h := h) ht
  unfold longD
  rcases hq : Lib.parseIntB 64 t with n | _ | _
  · rw [hq] at hp
    have hb := Lib.parseIntB_bounds hq
    have e : (((2 ^ (64 - 1) : Nat)) : Int) = 9223372036854775808 := by decide
    rw [e] at hb
    exact .inl ⟨n, ⟨hb.1, by omega⟩, hp, rfl⟩
  · rw [hq] at hp
    exact .inr ⟨hp, rfl⟩
  · rw [hq] at hp
    exact .inr ⟨hp, rfl⟩
theorem LongOf_run (t : List UInt8) (ht : t.length ≤ 1000000) : runF Tryd.prog po 30 [.str t] h = some (.inl (match longD t with
    | some n => .tup [.int .i64 n, .bool true]
    | none => .tup [.int .i64 0, .bool false]), h) := by
  rcases long_cases t (by omega) with ⟨n, hn, hp, hl⟩ | ⟨hp, hl⟩
  · have cf := fun h => fmt_run hn h
    by_cases he : Lib.itoa n = t
    · rw [hl, if_pos he]
      refine runF_E fn_LongOf rfl fun Q hQ => ?_; unfold rc_LongOf
      simp only [sim, simB, Nat.reduceAdd, Nat.reduceSub, List.replicate, reduceCtorEq, Nat.reduceLeDiff, Nat.reduceLT, clearA, hp, cf, he]
      exact hQ _ _ _ rfl (GrewA.refl _) rfl
    · rw [hl, if_neg he]
      refine runF_E fn_LongOf rfl fun Q hQ => ?_; unfold rc_LongOf
      simp only [sim, simB, Nat.reduceAdd, Nat.reduceSub, List.replicate, reduceCtorEq, Nat.reduceLeDiff, Nat.reduceLT, clearA, hp, cf, he]
      exact hQ _ _ _ rfl (GrewA.refl _) rfl
  · rw [hl]
    refine runF_E fn_LongOf rfl fun Q hQ => ?_; unfold rc_LongOf
    simp only [sim, simB, Nat.reduceAdd, Nat.reduceSub, List.replicate, reduceCtorEq, Nat.reduceLeDiff, Nat.reduceLT, clearA, hp]
    exact hQ _ _ _ rfl (GrewA.refl _) rfl

/-! ### one token -/
abbrev zRow : List AV := [.int .i64 0, .str [], .bool false, .int .i64 0]
def oneA' (o : Option TD) : AV := match o with
  | some t => .tup [.agg t.row, .int .i64 0]
  | none => .tup [.agg zRow, .int .i64 7]
theorem drop_at {s : List UInt8} {a : Nat} {c : UInt8} {r : List UInt8} (h : s.drop a = c :: r) : s[a]? = some c ∧ a < s.length ∧ s.drop (a + 1) = r ∧ r.length = s.length - a - 1 := by
  have h1 : s[a]? = some c := by
    have := List.getElem?_drop (xs := s) (i := a) (j := 0)
    rw [h] at this
    simpa using this.symm
  have h2 := (List.getElem?_eq_some_iff.1 h1).1
  have h3 : s.drop (a + 1) = r := by
    have := List.tail_drop (l := s) (i := a)
    rw [h] at this
    simpa using this.symm
  have h4 : (s.drop a).length = s.length - a := List.length_drop
  rw [h, List.length_cons] at h4
  exact ⟨h1, h2, h3, by omega⟩
theorem take_tw {f : UInt8 → Bool} : ∀ l : List UInt8, l.take (l.takeWhile f).length = l.takeWhile f
  | [] => rfl
  | c :: l => by
    rw [List.takeWhile_cons]
    split
    · rw [List.length_cons, List.take_succ_cons, take_tw l]
    · rfl
set_option maxHeartbeats 1000000 in
theorem tone_run (s : List UInt8) (a : Nat) (c : UInt8) (r : List UInt8) (hd : s.drop a = c :: r) (hs : s.length ≤ 1000000) :
    runF Tryd.prog po 26 [.str s, .int .i64 (a : Int)] h = some (.inl (oneA' (oneD a (s.drop a))), h) := by
  obtain ⟨hc, hlt, hd1, hrl⟩ := drop_at hd
  have e40 : decide ((c.toNat : Int) = 40) = decide (c = 40) := u8_eq c 40 (by decide)
  have e41 : decide ((c.toNat : Int) = 41) = decide (c = 41) := u8_eq c 41 (by decide)
  have e45 : decide ((c.toNat : Int) = 45) = decide (c = 45) := u8_eq c 45 (by decide)
  have w1 : IntKind.wrap .i64 ((a : Int) + 1) = ((a + 1 : Nat) : Int) := w64' (by omega) (by omega) (by omega)
  have rl := fun h => tletter_run (h := h) c
  have rd := fun h => tdigit_run (h := h) c
  have kz : ∀ x : List AV, (h.push [x]).cell h.n = some [x] := fun x => push_same
  have g1 : ∀ x : List AV, GrewA h (h.push [x]) := fun x => GrewA.push _ _
  rw [hd]
  by_cases hbr : c = 40 ∨ c = 41
  · have eo : oneD a (c :: r) = some ⟨a, [c], false, 0⟩ := if_pos hbr
    rw [eo]
    have sl : sliceA (.str s) (some (.int .i64 (a : Int))) (some (.int .i64 ((a + 1 : Nat) : Int))) = some (.str [c]) := by
      rw [slc_str (by omega) (by omega), hd, Nat.add_sub_cancel_left]
      rfl
    rcases hbr with hb | hb
    · have d40 : decide (c = 40) = true := decide_eq_true hb
      refine runF_E fn_tone rfl fun Q hQ => ?_; unfold rc_tone
      simp only [sim, simB, Nat.reduceAdd, Nat.reduceSub, List.replicate, reduceCtorEq, Nat.reduceLeDiff, Nat.reduceLT, clearA, ix_str hc, e40, d40, w1, sl]
      exact hQ _ _ _ (by simp only [sim, simB, Nat.reduceAdd, Nat.reduceSub, List.replicate, reduceCtorEq, Nat.reduceLeDiff, Nat.reduceLT, clearA]; rfl) (g1 _) rfl
    · have d40 : decide (c = 40) = false := decide_eq_false (by rw [hb]; decide)
      have d41 : decide (c = 41) = true := decide_eq_true hb
      refine runF_E fn_tone rfl fun Q hQ => ?_; unfold rc_tone
      simp only [sim, simB, Nat.reduceAdd, Nat.reduceSub, List.replicate, reduceCtorEq, Nat.reduceLeDiff, Nat.reduceLT, clearA, ix_str hc, e40, e41, d40, d41, w1, sl]
      exact hQ _ _ _ (by simp only [sim, simB, Nat.reduceAdd, Nat.reduceSub, List.replicate, reduceCtorEq, Nat.reduceLeDiff, Nat.reduceLT, clearA]; rfl) (g1 _) rfl
  · have d40 : decide (c = 40) = false := decide_eq_false fun e => hbr (.inl e)
    have d41 : decide (c = 41) = false := decide_eq_false fun e => hbr (.inr e)
    cases hl : letB c with
    | true =>
      have eo : oneD a (c :: r) = some ⟨a, c :: r.takeWhile letB, false, 0⟩ := by rw [oneD, if_neg hbr, if_pos hl]
      rw [eo]
      have hk : (s.drop a).takeWhile letB = c :: r.takeWhile letB := by rw [hd, List.takeWhile_cons, if_pos hl]
      have ru := fun h => trun_run (h := h) (fun c h => tletter_run (h := h) c) s a (by omega) hs
      have hkl : (c :: r.takeWhile letB).length ≤ s.length - a := by
        have := (List.takeWhile_sublist letB (l := r)).length_le
        simp only [List.length_cons]
        omega
      rw [hk] at ru
      have w2 : IntKind.wrap .i64 ((a : Int) + ((c :: r.takeWhile letB).length : Nat)) = ((a + (c :: r.takeWhile letB).length : Nat) : Int) := w64' (by omega) (by omega) (by omega)
      have sl : sliceA (.str s) (some (.int .i64 (a : Int))) (some (.int .i64 ((a + (c :: r.takeWhile letB).length : Nat) : Int))) = some (.str (c :: r.takeWhile letB)) := by
        rw [slc_str (by omega) (by omega), Nat.add_sub_cancel_left, ← hk, take_tw]
      generalize (c :: r.takeWhile letB) = tx at ru w2 sl ⊢
      refine runF_E fn_tone rfl fun Q hQ => ?_; unfold rc_tone
      simp only [sim, simB, Nat.reduceAdd, Nat.reduceSub, List.replicate, reduceCtorEq, Nat.reduceLeDiff, Nat.reduceLT, clearA, ix_str hc, e40, e41, d40, d41, rl, hl, ru, w2, sl]
      exact hQ _ _ _ (by simp only [sim, simB, Nat.reduceAdd, Nat.reduceSub, List.replicate, reduceCtorEq, Nat.reduceLeDiff, Nat.reduceLT, clearA]; rfl) (g1 _) rfl
    | false =>
      by_cases hdg : digB c = true ∨ c = 45
      · have eo : oneD a (c :: r) = (longD (c :: r.takeWhile digB)).map fun n => ⟨a, c :: r.takeWhile digB, true, n⟩ := by rw [oneD, if_neg hbr, hl, if_neg (by simp), if_pos hdg]
        rw [eo]
        have ru := fun h => trun_run (h := h) (fun c h => tdigit_run (h := h) c) s (a + 1) (by omega) hs
        rw [hd1] at ru
        have hkl := (List.takeWhile_sublist digB (l := r)).length_le
        have w2 : IntKind.wrap .i64 (((a + 1 : Nat) : Int) + ((r.takeWhile digB).length : Nat)) = ((a + 1 + (r.takeWhile digB).length : Nat) : Int) := w64' (by omega) (by omega) (by omega)
        have sl : sliceA (.str s) (some (.int .i64 (a : Int))) (some (.int .i64 ((a + 1 + (r.takeWhile digB).length : Nat) : Int))) = some (.str (c :: r.takeWhile digB)) := by
          rw [slc_str (by omega) (by omega), hd, show a + 1 + (r.takeWhile digB).length - a = (r.takeWhile digB).length + 1 by omega, List.take_succ_cons, take_tw]
        have htl : (c :: r.takeWhile digB).length ≤ 1000000 := by
          simp only [List.length_cons]
          omega
        have dd : (digB c = true ∧ True) ∨ (digB c = false ∧ decide (c = 45) = true) := by
          cases h9 : digB c with
          | true => exact .inl ⟨rfl, trivial⟩
          | false => exact .inr ⟨rfl, decide_eq_true (hdg.resolve_left (by simp [h9]))⟩
        generalize (c :: r.takeWhile digB) = tx at sl htl ⊢
        generalize (r.takeWhile digB).length = k at ru w2 sl
        have cases_ : ∀ (v : Option Int), longD tx = v → runF Tryd.prog po 26 [.str s, .int .i64 (a : Int)] h = some (.inl (oneA' (v.map fun n => ⟨a, tx, true, n⟩)), h) := by
          intro v hv
          rcases long_cases tx (by omega) with ⟨n, hn, hp, hln⟩ | ⟨hp, hln⟩
          · have cf := fun h => fmt_run hn h
            by_cases he : Lib.itoa n = tx
            · rw [hv, if_pos he] at hln
              subst hln
              rcases dd with ⟨d1, _⟩ | ⟨d1, d2⟩
              · refine runF_E fn_tone rfl fun Q hQ => ?_; unfold rc_tone
                simp only [sim, simB, Nat.reduceAdd, Nat.reduceSub, List.replicate, reduceCtorEq, Nat.reduceLeDiff, Nat.reduceLT, clearA, ix_str hc, e40, e41, d40, d41, rl, hl, rd, d1, w1, ru, w2, sl, hp, cf, he]
                exact hQ _ _ _ (by simp only [sim, simB, Nat.reduceAdd, Nat.reduceSub, List.replicate, reduceCtorEq, Nat.reduceLeDiff, Nat.reduceLT, clearA]; rfl) (g1 _) rfl
              · refine runF_E fn_tone rfl fun Q hQ => ?_; unfold rc_tone
                simp only [sim, simB, Nat.reduceAdd, Nat.reduceSub, List.replicate, reduceCtorEq, Nat.reduceLeDiff, Nat.reduceLT, clearA, ix_str hc, e40, e41, e45, d40, d41, rl, hl, rd, d1, d2, w1, ru, w2, sl, hp, cf, he]
                exact hQ _ _ _ (by simp only [sim, simB, Nat.reduceAdd, Nat.reduceSub, List.replicate, reduceCtorEq, Nat.reduceLeDiff, Nat.reduceLT, clearA]; rfl) (g1 _) rfl
            · rw [hv, if_neg he] at hln
              subst hln
              rcases dd with ⟨d1, _⟩ | ⟨d1, d2⟩
              · refine runF_E fn_tone rfl fun Q hQ => ?_; unfold rc_tone
                simp only [sim, simB, Nat.reduceAdd, Nat.reduceSub, List.replicate, reduceCtorEq, Nat.reduceLeDiff, Nat.reduceLT, clearA, ix_str hc, e40, e41, d40, d41, rl, hl, rd, d1, w1, ru, w2, sl, hp, cf, he]
                exact hQ _ _ _ (by simp only [sim, simB, Nat.reduceAdd, Nat.reduceSub, List.replicate, reduceCtorEq, Nat.reduceLeDiff, Nat.reduceLT, clearA]; rfl) (g1 _) rfl
              · refine runF_E fn_tone rfl fun Q hQ => ?_; unfold rc_tone
                simp only [sim, simB, Nat.reduceAdd, Nat.reduceSub, List.replicate, reduceCtorEq, Nat.reduceLeDiff, Nat.reduceLT, clearA, ix_str hc, e40, e41, e45, d40, d41, rl, hl, rd, d1, d2, w1, ru, w2, sl, hp, cf, he]
                exact hQ _ _ _ (by simp only [sim, simB, Nat.reduceAdd, Nat.reduceSub, List.replicate, reduceCtorEq, Nat.reduceLeDiff, Nat.reduceLT, clearA]; rfl) (g1 _) rfl
          · rw [hv] at hln
            subst hln
            rcases dd with ⟨d1, _⟩ | ⟨d1, d2⟩
            · refine runF_E fn_tone rfl fun Q hQ => ?_; unfold rc_tone
              simp only [sim, simB, Nat.reduceAdd, Nat.reduceSub, List.replicate, reduceCtorEq, Nat.reduceLeDiff, Nat.reduceLT, clearA, ix_str hc, e40, e41, d40, d41, rl, hl, rd, d1, w1, ru, w2, sl, hp]
              exact hQ _ _ _ (by simp only [sim, simB, Nat.reduceAdd, Nat.reduceSub, List.replicate, reduceCtorEq, Nat.reduceLeDiff, Nat.reduceLT, clearA]; rfl) (g1 _) rfl
            · refine runF_E fn_tone rfl fun Q hQ => ?_; unfold rc_tone
              simp only [sim, simB, Nat.reduceAdd, Nat.reduceSub, List.replicate, reduceCtorEq, Nat.reduceLeDiff, Nat.reduceLT, clearA, ix_str hc, e40, e41, e45, d40, d41, rl, hl, rd, d1, d2, w1, ru, w2, sl, hp]
              exact hQ _ _ _ (by simp only [sim, simB, Nat.reduceAdd, Nat.reduceSub, List.replicate, reduceCtorEq, Nat.reduceLeDiff, Nat.reduceLT, clearA]; rfl) (g1 _) rfl
        exact cases_ _ rfl
      · have eo : oneD a (c :: r) = none := by rw [oneD, if_neg hbr, hl, if_neg (by simp), if_neg hdg]
        rw [eo]
        have d1 : digB c = false := by
          cases h9 : digB c with
          | true => exact absurd (.inl h9) hdg
          | false => rfl
        have d2 : decide (c = 45) = false := decide_eq_false fun e => hdg (.inr e)
        refine runF_E fn_tone rfl fun Q hQ => ?_; unfold rc_tone
        simp only [sim, simB, Nat.reduceAdd, Nat.reduceSub, List.replicate, reduceCtorEq, Nat.reduceLeDiff, Nat.reduceLT, clearA, ix_str hc, e40, e41, e45, d40, d41, rl, hl, rd, d1, d2]
        exact hQ _ _ _ (by simp only [sim, simB, Nat.reduceAdd, Nat.reduceSub, List.replicate, reduceCtorEq, Nat.reduceLeDiff, Nat.reduceLT, clearA]; rfl) (g1 _) rfl
end
end Go.Proofs.YtngphebjmmencaaDoor
namespace Go.Proofs.YtngphebjmmencaaDoor
set_option linter.unusedSimpArgs false
set_option linter.unusedVariables false
open Go

/-- a loop, by what grows less -/
theorem loop_W {C : CallR} {nv : Nat} {b : List RS} {K : List RK} {Q : RRun → Prop} {α : Type} (μ : α → Nat) (I : α → List AV → AH → Prop)
    (step : ∀ x V h, I x V h → (∀ y V' h', μ y < μ x → I y V' h' → Q (runR C nv (.lp b :: K) V' [] h')) → Q (runR C nv (.lp b :: K) V [] h)) (x : α) {V : List AV} {h : AH} (h0 : I x V h) : Q (runR C nv (.lp b :: K) V [] h) := by
  have key : ∀ (N : Nat) (x : α) (V : List AV) (h : AH), μ x < N → I x V h → Q (runR C nv (.lp b :: K) V [] h) := by
    intro N
    induction N with
    | zero => intro x V h hx; omega
    | succ N ih => intro x V h hx hI; exact step x V h hI fun y V' h' hy hI' => ih y V' h' (by omega) hI'
  exact key _ x V h (Nat.lt_succ_self _) h0

abbrev fltT (q : Int × Int) : AV := .agg [.int .i64 q.1, .int .i64 q.2]
abbrev rowsT (l : List TD) : List (List AV) := l.map TD.row
theorem rows_flat (l : List TD) : ∀ r ∈ rowsT l, r.all flatA = true := by
  intro r hr
  obtain ⟨t, _, rfl⟩ := List.mem_map.1 hr
  rfl
theorem scan_out {s : List UInt8} {l : List TD} (hs : ¬ 6000 < s.length) (h : scanD 0 0 s = .inl l) : scanR s = (l, (0, 0)) := by rw [scanR, if_neg hs, h]
theorem scan_err {s : List UInt8} {e : Nat} (hs : ¬ 6000 < s.length) (h : scanD 0 0 s = .inr e) : scanR s = ([], (7, (e : Int))) := by rw [scanR, if_neg hs, h]
/-- so far -/
def soFar (s : List UInt8) (q : Nat × List TD) : Prop := q.1 ≤ s.length ∧ q.2.length ≤ q.1 ∧ scanD 0 0 s = match scanD 0 q.1 (s.drop q.1) with
  | .inl l => .inl (q.2 ++ l)
  | .inr e => .inr e
theorem soFar_one {s : List UInt8} {a : Nat} {acc : List TD} (h : soFar s (a, acc)) {c : UInt8} {r : List UInt8} (hd : s.drop a = c :: r) (hb : blankB c = false) {t : TD} (ho : oneD a (c :: r) = some t) :
    soFar s (a + t.text.length, acc ++ [t]) := by
  obtain ⟨h1, h2, h3⟩ := h
  simp only at h1 h2 h3
  obtain ⟨o1, o2, o3⟩ := one_text ho
  have hl : (s.drop a).length = s.length - a := List.length_drop
  have htl : t.text.length ≤ (c :: r).length := by
    rw [o3, List.length_take]
    omega
  rw [← hd, hl] at htl
  refine ⟨by simp only; omega, by simp only [List.length_append, List.length_singleton]; omega, ?_⟩
  simp only
  rw [h3, hd, scanD_one hb ho, ← hd, List.drop_drop]
  cases scanD 0 (a + t.text.length) (s.drop (a + t.text.length)) with
  | inl l => simp
  | inr e => rfl
theorem soFar_skip {s : List UInt8} {a : Nat} {acc : List TD} (h : soFar s (a, acc)) : soFar s (a + blanks (s.drop a), acc) := by
  obtain ⟨h1, h2, h3⟩ := h
  simp only at h1 h2 h3
  have hl : (s.drop a).length = s.length - a := List.length_drop
  have hb := blanks_le (s.drop a)
  refine ⟨by simp only; omega, by simp only; omega, ?_⟩
  simp only
  rw [h3, scanD_blanks (s.drop a) a, List.drop_drop]
theorem soFar_end {s : List UInt8} {a : Nat} {acc : List TD} (h : soFar s (a, acc)) (ha : s.drop a = []) : scanD 0 0 s = .inl acc := by
  obtain ⟨h1, h2, h3⟩ := h
  simp only at h3
  rw [h3, ha, scanD_nil]
  simp
theorem soFar_none {s : List UInt8} {a : Nat} {acc : List TD} (h : soFar s (a, acc)) {c : UInt8} {r : List UInt8} (hd : s.drop a = c :: r) (hb : blankB c = false) (ho : oneD a (c :: r) = none) : scanD 0 0 s = .inr a := by
  obtain ⟨h1, h2, h3⟩ := h
  simp only at h3
  rw [h3, hd, scanD_none hb ho]
theorem soFar_zero (s : List UInt8) : soFar s (0, []) := by
  refine ⟨Nat.zero_le _, Nat.le_refl _, ?_⟩
  simp only [List.drop_zero, List.nil_append]
  cases scanD 0 0 s <;> rfl

section
variable {h : AH}
theorem wk_scan {h0 h1 : AH} {e : TypeId} {v : AV} {l : List TD} (ha : Acc h0 h1 e v (rowsT l)) (q : Int × Int) : wkA (.tup [v, fltT q]) = some (.tup [lstA e (rowsT l), fltT q]) := by
  have := acc_wk ha (rows_flat l)
  simp only [wkA, wkL, this, Option.map_some]
set_option maxHeartbeats 2000000 in
theorem tScan_run (s : List UInt8) (hs : s.length ≤ 1000000) : runF Tryd.prog po 10 [.str s] h = some (.inl (.tup [lstA tTk (rowsT (scanR s).1), fltT (scanR s).2]), h) := by
  by_cases h6 : 6000 < s.length
  · have e : scanR s = ([], (3, 6000)) := if_pos h6
    rw [e]
    have h6' : (6000 : Int) < (s.length : Int) := by omega
    refine runF_E fn_tScan rfl fun Q hQ => ?_; unfold rc_tScan
    simp only [sim, simB, Nat.reduceAdd, Nat.reduceSub, List.replicate, reduceCtorEq, Nat.reduceLeDiff, Nat.reduceLT, clearA, h6']
    exact hQ _ _ (.tup [.nils, fltT (3, 6000)]) (by simp only [sim, simB, Nat.reduceAdd, Nat.reduceSub, List.replicate, reduceCtorEq, Nat.reduceLeDiff, Nat.reduceLT, clearA]) (GrewA.push _ _) rfl
  · have h6' : ¬ (6000 : Int) < (s.length : Int) := by omega
    have ru0 : ∀ h, runF Tryd.prog po 24 [.str s, .int .i64 0, .fn 25 [] []] h = some (.inl (.int .i64 ((blanks s : Nat) : Int)), h) := fun h => trun_run (h := h) (fun c h => tblank_run (h := h) c) s 0 (by omega) hs
    refine runF_E fn_tScan rfl fun Q hQ => ?_; unfold rc_tScan
    simp only [sim, simB, Nat.reduceAdd, Nat.reduceSub, List.replicate, reduceCtorEq, Nat.reduceLeDiff, Nat.reduceLT, clearA, h6', ru0]
    generalize hh1 : h.push [[AV.int .i64 0, .int .i64 0]] = h1
    have c1 : h1.cell h.n = some [[.int .i64 0, .int .i64 0]] := by rw [← hh1]; exact push_same
    have g1 : GrewA h h1 := by rw [← hh1]; exact GrewA.push _ _
    have n1 : h1.n = h.n + 1 := by rw [← hh1]; rfl
    refine loop_W (fun q : Nat × List TD => s.length - q.1) (fun q V h' => ∃ v w5 w6 w8 w9, V = [.str s, .nils, .ptr h.n 0 0, v, .int .i64 ((q.1 : Nat) : Int), w5, w6, .bool false, w8, w9] ∧ Acc h1 h' tTk v (rowsT q.2) ∧ GrewA h1 h' ∧ soFar s q ∧ ∀ c r, s.drop q.1 = c :: r → blankB c = false) ?_ (blanks s, []) ⟨_, _, _, _, _, rfl, acc_nil _ _ _, GrewA.refl _, by have := soFar_skip (soFar_zero s); rw [List.drop_zero, Nat.zero_add] at this; exact this, fun c r e => drop_blanks s e⟩
    rintro ⟨a, acc⟩ V h' ⟨v, w5, w6, w8, w9, rfl, ha, gg, so, nb⟩ next
    simp only at so nb next ⊢
    have so' := so
    obtain ⟨b1, b2, b3⟩ := so'
    simp only at b1 b2
    have cf : h'.cell h.n = some [[.int .i64 0, .int .i64 0]] := (gg.cell _ (by omega)).trans c1
    cases hd : s.drop a with
    | nil =>
      have hl : (s.drop a).length = s.length - a := List.length_drop
      rw [hd] at hl
      have hlt : ¬ (a : Int) < (s.length : Int) := by simp only [List.length_nil] at hl; omega
      have e := scan_out h6 (soFar_end so hd)
      rw [e] at hQ
      rw [r_lpb rc_tScan_b1.eq_1]
      simp only [sim, simB, Nat.reduceAdd, Nat.reduceSub, List.replicate, reduceCtorEq, Nat.reduceLeDiff, Nat.reduceLT, clearA, hlt, cf]
      exact hQ _ _ (.tup [v, fltT (0, 0)]) (by simp only [sim, simB, Nat.reduceAdd, Nat.reduceSub, List.replicate, reduceCtorEq, Nat.reduceLeDiff, Nat.reduceLT, clearA]) ((g1.trans gg).set (by omega)) (wk_scan ha _)
    | cons c r =>
      obtain ⟨d1, d2, d3, d4⟩ := drop_at hd
      have hb := nb c r hd
      have hlt : (a : Int) < (s.length : Int) := by omega
      have e1 := fun h => tone_run (h := h) s a c r hd hs
      have n0 : h.n ≠ h'.n := by have := gg.n; omega
      have kf : ∀ x, (h'.push [x]).cell h.n = some [[.int .i64 0, .int .i64 0]] := fun x => (push_lt (by have := gg.n; omega)).trans cf
      rw [hd] at e1
      cases ho : oneD a (c :: r) with
      | none =>
        have e := scan_err h6 (soFar_none so hd hb ho)
        rw [e] at hQ
        rw [ho] at e1
        simp only [oneA'] at e1
        rw [r_lpb rc_tScan_b1.eq_1]
        simp only [sim, simB, Nat.reduceAdd, Nat.reduceSub, List.replicate, reduceCtorEq, Nat.reduceLeDiff, Nat.reduceLT, clearA, hlt, e1, kf, Int.reduceEq]
        exact hQ _ _ (.tup [.nils, fltT (7, a)]) (by simp only [sim, simB, Nat.reduceAdd, Nat.reduceSub, List.replicate, reduceCtorEq, Nat.reduceLeDiff, Nat.reduceLT, clearA]) (((g1.trans gg).trans (GrewA.push _ _)).set (by omega)) rfl
      | some t =>
        rw [ho] at e1
        simp only [oneA', TD.row] at e1
        have so2 := soFar_one so hd hb ho
        have so2' := so2
        obtain ⟨b4, b5, _⟩ := so2'
        simp only at b4 b5
        obtain ⟨o1, o2, o3⟩ := one_text ho
        have so3 := soFar_skip so2
        have bl := blanks_le (s.drop (a + t.text.length))
        have hl2 : (s.drop (a + t.text.length)).length = s.length - (a + t.text.length) := List.length_drop
        have w1 : IntKind.wrap .i64 ((a : Int) + (t.text.length : Int)) = ((a + t.text.length : Nat) : Int) := w64' (by omega) (by omega) (by omega)
        have w2 : IntKind.wrap .i64 (((a + t.text.length : Nat) : Int) + ((blanks (s.drop (a + t.text.length)) : Nat) : Int)) = ((a + t.text.length + blanks (s.drop (a + t.text.length)) : Nat) : Int) := w64' (by omega) (by omega) (by omega)
        have ru : ∀ h, runF Tryd.prog po 24 [.str s, .int .i64 ((a + t.text.length : Nat) : Int), .fn 25 [] []] h = some (.inl (.int .i64 ((blanks (s.drop (a + t.text.length)) : Nat) : Int)), h) := fun h => trun_run (h := h) (fun c h => tblank_run (h := h) c) s (a + t.text.length) (by omega) hs
        have ha' : Acc h1 (h'.push [TD.row t]) tTk v (rowsT acc) := ha
        obtain ⟨v2, h2, e2, a2, g2, k2, m2⟩ := acc_app ha' (gg.trans (GrewA.push _ _)) (row := TD.row t) rfl (by rw [List.length_map]; omega)
        have kt : h2.cell h'.n = some [TD.row t] := by rw [k2]; exact push_same
        simp only [TD.row, push_ids] at e2 kt
        rw [r_lpb rc_tScan_b1.eq_1]
        simp only [sim, simB, Nat.reduceAdd, Nat.reduceSub, List.replicate, reduceCtorEq, Nat.reduceLeDiff, Nat.reduceLT, clearA, hlt, e1, e2, kt, w1, ru, w2, Int.reduceEq]
        refine next (a + t.text.length + blanks (s.drop (a + t.text.length)), acc ++ [t]) _ _ (by simp only; omega) ⟨_, _, _, _, _, rfl, ?_, g2, so3, fun c r e => ?_⟩
        · simp only [rowsT, List.map_append, List.map_cons, List.map_nil] at a2 ⊢
          exact a2
        · simp only at e
          rw [← List.drop_drop] at e
          exact drop_blanks _ e
end
end Go.Proofs.YtngphebjmmencaaDoor
namespace Go.Proofs.YtngphebjmmencaaDoor
set_option linter.unusedSimpArgs false
set_option linter.unusedVariables false
open Go

theorem soFar_blank {s : List UInt8} {a : Nat} {acc : List TD} (h : soFar s (a, acc)) {c : UInt8} {r : List UInt8} (hd : s.drop a = c :: r) (hb : blankB c = true) : soFar s (a + 1, acc) := by
  obtain ⟨h1, h2, h3⟩ := h
  simp only at h1 h2 h3
  obtain ⟨d1, d2, d3, d4⟩ := drop_at hd
  refine ⟨by simp only; omega, by simp only; omega, ?_⟩
  simp only
  rw [h3, hd, scanD_blank hb, d3]

section
variable {h : AH}
theorem tF_run (c a : Int) : runF Tryd.prog po 27 [.int .i64 c, .int .i64 a] h = some (.inl (.agg [.int .i64 c, .int .i64 a]), h) := by
  refine runF_R fn_tF rfl ?_; unfold rc_tF
  simp only [sim, simB, Nat.reduceAdd, Nat.reduceSub, List.replicate, reduceCtorEq, Nat.reduceLeDiff, Nat.reduceLT, clearA, fg_yes (GrewA.push h _) (rfl : wkA (.agg [.int .i64 c, .int .i64 a]) = _)]
set_option maxHeartbeats 4000000 in
theorem rScan_run (s : List UInt8) (hs : s.length ≤ 1000000) : runF Tryd.prog po 11 [.str s] h = some (.inl (.tup [lstA tRk (rowsT (scanR s).1), fltT (scanR s).2]), h) := by
  have cF := fun h c a => tF_run (h := h) c a
  by_cases h6 : 6000 < s.length
  · have e : scanR s = ([], (3, 6000)) := if_pos h6
    rw [e]
    have h6' : (6000 : Int) < (s.length : Int) := by omega
    refine runF_E fn_rScan rfl fun Q hQ => ?_; unfold rc_rScan
    simp only [sim, simB, Nat.reduceAdd, Nat.reduceSub, List.replicate, reduceCtorEq, Nat.reduceLeDiff, Nat.reduceLT, clearA, h6', cF]
    exact hQ _ _ (.tup [.nils, fltT (3, 6000)]) (by simp only [sim, simB, Nat.reduceAdd, Nat.reduceSub, List.replicate, reduceCtorEq, Nat.reduceLeDiff, Nat.reduceLT, clearA]) (GrewA.push _ _) rfl
  · have h6' : ¬ (6000 : Int) < (s.length : Int) := by omega
    refine runF_E fn_rScan rfl fun Q hQ => ?_; unfold rc_rScan
    simp only [sim, simB, Nat.reduceAdd, Nat.reduceSub, List.replicate, reduceCtorEq, Nat.reduceLeDiff, Nat.reduceLT, clearA, h6']
    generalize hh1 : h.push [[AV.int .i64 0, .int .i64 0]] = h1
    have c1 : h1.cell h.n = some [[.int .i64 0, .int .i64 0]] := by rw [← hh1]; exact push_same
    have g1 : GrewA h h1 := by rw [← hh1]; exact GrewA.push _ _
    have n1 : h1.n = h.n + 1 := by rw [← hh1]; rfl
    refine loop_W (fun q : Nat × List TD => s.length - q.1) (fun q V h' => ∃ v w5 w6 w7 w8 w10 w11 w12 w13 w14 w15 w16 w17, V = [.str s, .nils, .ptr h.n 0 0, v, .int .i64 ((q.1 : Nat) : Int), w5, w6, w7, w8, .bool false, w10, w11, w12, w13, w14, w15, w16, w17] ∧ Acc h1 h' tRk v (rowsT q.2) ∧ GrewA h1 h' ∧ soFar s q) ?_ (0, []) ⟨_, _, _, _, _, _, _, _, _, _, _, _, _, rfl, acc_nil _ _ _, GrewA.refl _, soFar_zero s⟩
    rintro ⟨a, acc⟩ V h' ⟨v, w5, w6, w7, w8, w10, w11, w12, w13, w14, w15, w16, w17, rfl, ha, gg, so⟩ next
    simp only at so next ⊢
    have so' := so
    obtain ⟨b1, b2, b3⟩ := so'
    simp only at b1 b2
    have cf : h'.cell h.n = some [[.int .i64 0, .int .i64 0]] := (gg.cell _ (by omega)).trans c1
    cases hd : s.drop a with
    | nil =>
      have hl : (s.drop a).length = s.length - a := List.length_drop
      rw [hd] at hl
      have hlt : ¬ (a : Int) < (s.length : Int) := by simp only [List.length_nil] at hl; omega
      have e := scan_out h6 (soFar_end so hd)
      rw [e] at hQ
      rw [r_lpb rc_rScan_b3.eq_1]
      simp only [sim, simB, Nat.reduceAdd, Nat.reduceSub, List.replicate, reduceCtorEq, Nat.reduceLeDiff, Nat.reduceLT, clearA, hlt, cf]
      exact hQ _ _ (.tup [v, fltT (0, 0)]) (by simp only [sim, simB, Nat.reduceAdd, Nat.reduceSub, List.replicate, reduceCtorEq, Nat.reduceLeDiff, Nat.reduceLT, clearA]) ((g1.trans gg).set (by omega)) (wk_scan ha _)
    | cons c r =>
      obtain ⟨d1, d2, d3, d4⟩ := drop_at hd
      have hlt : (a : Int) < (s.length : Int) := by omega
      have w1 : IntKind.wrap .i64 ((a : Int) + 1) = ((a + 1 : Nat) : Int) := w64' (by omega) (by omega) (by omega)
      have x32 : decide ((c.toNat : Int) = 32) = decide (c = 32) := u8_eq c 32 (by decide)
      have x9 : decide ((c.toNat : Int) = 9) = decide (c = 9) := u8_eq c 9 (by decide)
      have x10 : decide ((c.toNat : Int) = 10) = decide (c = 10) := u8_eq c 10 (by decide)
      have x13 : decide ((c.toNat : Int) = 13) = decide (c = 13) := u8_eq c 13 (by decide)
      have x40 : decide ((c.toNat : Int) = 40) = decide (c = 40) := u8_eq c 40 (by decide)
      have x41 : decide ((c.toNat : Int) = 41) = decide (c = 41) := u8_eq c 41 (by decide)
      have x45 : decide ((c.toNat : Int) = 45) = decide (c = 45) := u8_eq c 45 (by decide)
      have rl := fun h c => isLetter_run (h := h) c
      have rd := fun h c => isDigit_run (h := h) c
      cases hb : blankB c with
      | true =>
        have so2 := soFar_blank so hd hb
        rw [blank_eq] at hb
        cases z1 : decide (c = 32) with
        | true =>
          rw [r_lpb rc_rScan_b3.eq_1]
          simp only [sim, simB, Nat.reduceAdd, Nat.reduceSub, List.replicate, reduceCtorEq, Nat.reduceLeDiff, Nat.reduceLT, clearA, hlt, ix_str d1, w1, x32, z1]
          exact next (a + 1, acc) _ _ (by simp only; omega) ⟨_, _, _, _, _, _, _, _, _, _, _, _, _, rfl, ha, gg, so2⟩
        | false =>
          cases z2 : decide (c = 9) with
          | true =>
            rw [r_lpb rc_rScan_b3.eq_1]
            simp only [sim, simB, Nat.reduceAdd, Nat.reduceSub, List.replicate, reduceCtorEq, Nat.reduceLeDiff, Nat.reduceLT, clearA, hlt, ix_str d1, w1, x32, x9, z1, z2]
            exact next (a + 1, acc) _ _ (by simp only; omega) ⟨_, _, _, _, _, _, _, _, _, _, _, _, _, rfl, ha, gg, so2⟩
          | false =>
            cases z3 : decide (c = 10) with
            | true =>
              rw [r_lpb rc_rScan_b3.eq_1]
              simp only [sim, simB, Nat.reduceAdd, Nat.reduceSub, List.replicate, reduceCtorEq, Nat.reduceLeDiff, Nat.reduceLT, clearA, hlt, ix_str d1, w1, x32, x9, x10, z1, z2, z3]
              exact next (a + 1, acc) _ _ (by simp only; omega) ⟨_, _, _, _, _, _, _, _, _, _, _, _, _, rfl, ha, gg, so2⟩
            | false =>
              have z4 : decide (c = 13) = true := by rw [z1, z2, z3] at hb; simpa using hb
              rw [r_lpb rc_rScan_b3.eq_1]
              simp only [sim, simB, Nat.reduceAdd, Nat.reduceSub, List.replicate, reduceCtorEq, Nat.reduceLeDiff, Nat.reduceLT, clearA, hlt, ix_str d1, w1, x32, x9, x10, x13, z1, z2, z3, z4]
              exact next (a + 1, acc) _ _ (by simp only; omega) ⟨_, _, _, _, _, _, _, _, _, _, _, _, _, rfl, ha, gg, so2⟩
      | false =>
        have hb' := hb
        rw [blank_eq] at hb'
        simp only [Bool.or_eq_false_iff] at hb'
        obtain ⟨z1, z2, z3, z4⟩ := hb'
        by_cases hbr : c = 40 ∨ c = 41
        · have ho : oneD a (c :: r) = some ⟨a, [c], false, 0⟩ := if_pos hbr
          have so2 := soFar_one so hd hb ho
          have sl : sliceA (.str s) (some (.int .i64 (a : Int))) (some (.int .i64 ((a + 1 : Nat) : Int))) = some (.str [c]) := by
            rw [slc_str (by omega) (by omega), hd, Nat.add_sub_cancel_left]
            rfl
          obtain ⟨v2, h2, e2, a2, g2, k2, m2⟩ := acc_app ha gg (row := TD.row ⟨a, [c], false, 0⟩) rfl (by rw [List.length_map]; simp only; omega)
          simp only [TD.row] at e2
          have a2' : Acc h1 h2 tRk v2 (rowsT (acc ++ [⟨a, [c], false, 0⟩])) := by
            simp only [rowsT, List.map_append, List.map_cons, List.map_nil] at a2 ⊢
            exact a2
          rcases hbr with hx | hx
          · have y40 : decide (c = 40) = true := decide_eq_true hx
            rw [r_lpb rc_rScan_b3.eq_1]
            simp only [sim, simB, Nat.reduceAdd, Nat.reduceSub, List.replicate, reduceCtorEq, Nat.reduceLeDiff, Nat.reduceLT, clearA, hlt, ix_str d1, w1, x32, x9, x10, x13, z1, z2, z3, z4, x40, y40, sl, e2]
            exact next (a + 1, _) _ _ (by simp only; omega) ⟨_, _, _, _, _, _, _, _, _, _, _, _, _, rfl, a2', g2, so2⟩
          · have y40 : decide (c = 40) = false := decide_eq_false (by rw [hx]; decide)
            have y41 : decide (c = 41) = true := decide_eq_true hx
            rw [r_lpb rc_rScan_b3.eq_1]
            simp only [sim, simB, Nat.reduceAdd, Nat.reduceSub, List.replicate, reduceCtorEq, Nat.reduceLeDiff, Nat.reduceLT, clearA, hlt, ix_str d1, w1, x32, x9, x10, x13, z1, z2, z3, z4, x40, x41, y40, y41, sl, e2]
            exact next (a + 1, _) _ _ (by simp only; omega) ⟨_, _, _, _, _, _, _, _, _, _, _, _, _, rfl, a2', g2, so2⟩
        · have y40 : decide (c = 40) = false := decide_eq_false fun e => hbr (.inl e)
          have y41 : decide (c = 41) = false := decide_eq_false fun e => hbr (.inr e)
          cases hl : letB c with
          | true =>
            have ho : oneD a (c :: r) = some ⟨a, c :: r.takeWhile letB, false, 0⟩ := by rw [oneD, if_neg hbr, if_pos hl]
            have so2 := soFar_one so hd hb ho
            have hin := tw_at (f := letB) r
            have hend := tw_end (f := letB) r
            have hle : (r.takeWhile letB).length ≤ r.length := (List.takeWhile_sublist _).length_le
            have sl : sliceA (.str s) (some (.int .i64 (a : Int))) (some (.int .i64 ((a + 1 + (r.takeWhile letB).length : Nat) : Int))) = some (.str (c :: r.takeWhile letB)) := by
              rw [slc_str (by omega) (by omega), hd, show a + 1 + (r.takeWhile letB).length - a = (r.takeWhile letB).length + 1 by omega, List.take_succ_cons, take_tw]
            have hj : a + (c :: r.takeWhile letB).length = a + 1 + (r.takeWhile letB).length := by rw [List.length_cons]; omega
            simp only at so2
            rw [hj] at so2
            obtain ⟨v2, h2, e2, a2, g2, k2, m2⟩ := acc_app ha gg (row := TD.row ⟨a, c :: r.takeWhile letB, false, 0⟩) rfl (by rw [List.length_map]; simp only; omega)
            simp only [TD.row] at e2
            have a2' : Acc h1 h2 tRk v2 (rowsT (acc ++ [⟨a, c :: r.takeWhile letB, false, 0⟩])) := by
              simp only [rowsT, List.map_append, List.map_cons, List.map_nil] at a2 ⊢
              exact a2
            generalize c :: r.takeWhile letB = tx at *
            generalize (r.takeWhile letB).length = n at *
            rw [r_lpb rc_rScan_b3.eq_1]
            simp only [sim, simB, Nat.reduceAdd, Nat.reduceSub, List.replicate, reduceCtorEq, Nat.reduceLeDiff, Nat.reduceLT, clearA, hlt, ix_str d1, w1, x32, x9, x10, x13, z1, z2, z3, z4, x40, x41, y40, y41, rl, hl]
            refine loop_Q (fun k V h'' => ∃ w14, V = [.str s, .nils, .ptr h.n 0 0, v, .int .i64 (a : Int), .int .u8 c.toNat, .int .i64 ((a + 1 + k : Nat) : Int), w7, w8, .bool false, .bool true, .bool false, .bool false, .bool true, w14, w15, w16, w17] ∧ h'' = h') n ⟨_, rfl, rfl⟩ ?_ ?_
            · rintro k V h'' hk ⟨w14', rfl, rfl⟩ next2
              obtain ⟨x, hx, hfx⟩ := hin k hk
              rw [← d3, List.getElem?_drop] at hx
              have hlt2 : ((a + 1 + k : Nat) : Int) < (s.length : Int) := by omega
              have w2 : IntKind.wrap .i64 (((a + 1 + k : Nat) : Int) + 1) = ((a + 1 + (k + 1) : Nat) : Int) := w64' (by omega) (by omega) (by omega)
              rw [r_lpb rc_rScan_b2.eq_1]
              simp only [sim, simB, Nat.reduceAdd, Nat.reduceSub, List.replicate, reduceCtorEq, Nat.reduceLeDiff, Nat.reduceLT, clearA, hlt2, ix_str hx, rl, hfx, w2]
              exact next2 _ _ ⟨_, rfl, rfl⟩
            · rintro V h'' ⟨w14', rfl, rfl⟩
              rcases hend with he | ⟨x, hx, hfx⟩
              · have hlt2 : ¬ ((a + 1 + n : Nat) : Int) < (s.length : Int) := by omega
                rw [r_lpb rc_rScan_b2.eq_1]
                simp only [sim, simB, Nat.reduceAdd, Nat.reduceSub, List.replicate, reduceCtorEq, Nat.reduceLeDiff, Nat.reduceLT, clearA, hlt2, sl, e2]
                exact next (a + 1 + n, _) _ _ (by simp only; omega) ⟨_, _, _, _, _, _, _, _, _, _, _, _, _, rfl, a2', g2, so2⟩
              · rw [← d3, List.getElem?_drop] at hx
                have hlt2 : ((a + 1 + n : Nat) : Int) < (s.length : Int) := by
                  have := (List.getElem?_eq_some_iff.1 hx).1
                  omega
                rw [r_lpb rc_rScan_b2.eq_1]
                simp only [sim, simB, Nat.reduceAdd, Nat.reduceSub, List.replicate, reduceCtorEq, Nat.reduceLeDiff, Nat.reduceLT, clearA, hlt2, ix_str hx, rl, hfx, sl, e2]
                exact next (a + 1 + n, _) _ _ (by simp only; omega) ⟨_, _, _, _, _, _, _, _, _, _, _, _, _, rfl, a2', g2, so2⟩
          | false =>
            by_cases hdg : digB c = true ∨ c = 45
            · have ho : oneD a (c :: r) = (longD (c :: r.takeWhile digB)).map fun n => ⟨a, c :: r.takeWhile digB, true, n⟩ := by rw [oneD, if_neg hbr, hl, if_neg (by simp), if_pos hdg]
              have hin := tw_at (f := digB) r
              have hend := tw_end (f := digB) r
              have hle : (r.takeWhile digB).length ≤ r.length := (List.takeWhile_sublist _).length_le
              have sl : sliceA (.str s) (some (.int .i64 (a : Int))) (some (.int .i64 ((a + 1 + (r.takeWhile digB).length : Nat) : Int))) = some (.str (c :: r.takeWhile digB)) := by
                rw [slc_str (by omega) (by omega), hd, show a + 1 + (r.takeWhile digB).length - a = (r.takeWhile digB).length + 1 by omega, List.take_succ_cons, take_tw]
              have hj : a + (c :: r.takeWhile digB).length = a + 1 + (r.takeWhile digB).length := by rw [List.length_cons]; omega
              have cl := fun h => LongOf_run (h := h) (c :: r.takeWhile digB) (by rw [List.length_cons]; omega)
              have more : ∀ n, longD (c :: r.takeWhile digB) = some n → soFar s (a + 1 + (r.takeWhile digB).length, acc ++ [⟨a, c :: r.takeWhile digB, true, n⟩]) := by
                intro n hn
                rw [hn] at ho
                have := soFar_one so hd hb ho
                simp only at this
                rw [hj] at this
                exact this
              have none_ : longD (c :: r.takeWhile digB) = none → scanR s = ([], (7, (a : Int))) := by
                intro hn
                rw [hn] at ho
                exact scan_err h6 (soFar_none so hd hb ho)
              have dd : (digB c = true ∧ True) ∨ (digB c = false ∧ decide (c = 45) = true) := by
                cases h9 : digB c with
                | true => exact .inl ⟨rfl, trivial⟩
                | false => exact .inr ⟨rfl, decide_eq_true (hdg.resolve_left (by simp [h9]))⟩
              clear ho hj
              generalize c :: r.takeWhile digB = tx at sl cl more none_
              generalize (r.takeWhile digB).length = n at hin hend hle sl more
              rcases dd with ⟨q1, _⟩ | ⟨q1, q2⟩
              · rw [r_lpb rc_rScan_b3.eq_1]
                simp only [sim, simB, Nat.reduceAdd, Nat.reduceSub, List.replicate, reduceCtorEq, Nat.reduceLeDiff, Nat.reduceLT, clearA, hlt, ix_str d1, w1, x32, x9, x10, x13, z1, z2, z3, z4, x40, x41, y40, y41, rl, hl, rd, q1]
                refine loop_Q (fun k V h'' => ∃ w16, V = [.str s, .nils, .ptr h.n 0 0, v, .int .i64 (a : Int), .int .u8 c.toNat, .int .i64 ((a + 1 + k : Nat) : Int), w7, w8, .bool false, .bool true, .bool false, .bool false, .bool false, w14, .bool true, w16, w17] ∧ h'' = h') n ⟨_, rfl, rfl⟩ ?_ ?_
                · rintro k V h'' hk ⟨w16', rfl, rfl⟩ next2
                  obtain ⟨x, hx, hfx⟩ := hin k hk
                  rw [← d3, List.getElem?_drop] at hx
                  have hlt2 : ((a + 1 + k : Nat) : Int) < (s.length : Int) := by omega
                  have w2 : IntKind.wrap .i64 (((a + 1 + k : Nat) : Int) + 1) = ((a + 1 + (k + 1) : Nat) : Int) := w64' (by omega) (by omega) (by omega)
                  rw [r_lpb rc_rScan_b1.eq_1]
                  simp only [sim, simB, Nat.reduceAdd, Nat.reduceSub, List.replicate, reduceCtorEq, Nat.reduceLeDiff, Nat.reduceLT, clearA, hlt2, ix_str hx, rd, hfx, w2]
                  exact next2 _ _ ⟨_, rfl, rfl⟩
                · rintro V h'' ⟨w16', rfl, rfl⟩
                  rcases hend with he | ⟨x, hx, hfx⟩
                  · have hlt2 : ¬ ((a + 1 + n : Nat) : Int) < (s.length : Int) := by omega
                    cases hlg : longD tx with
                    | none =>
                      rw [none_ hlg] at hQ
                      rw [hlg] at cl
                      simp only at cl
                      rw [r_lpb rc_rScan_b1.eq_1]
                      simp only [sim, simB, Nat.reduceAdd, Nat.reduceSub, List.replicate, reduceCtorEq, Nat.reduceLeDiff, Nat.reduceLT, clearA, hlt2, sl, cl, cF, cf]
                      exact hQ _ _ (.tup [.nils, fltT (7, a)]) (by simp only [sim, simB, Nat.reduceAdd, Nat.reduceSub, List.replicate, reduceCtorEq, Nat.reduceLeDiff, Nat.reduceLT, clearA]) ((g1.trans gg).set (by omega)) rfl
                    | some z =>
                      have so2 := more z hlg
                      rw [hlg] at cl
                      simp only at cl
                      obtain ⟨v2, h2, e2, a2, g2, k2, m2⟩ := acc_app ha gg (row := TD.row ⟨a, tx, true, z⟩) rfl (by rw [List.length_map]; simp only; omega)
                      simp only [TD.row] at e2
                      have a2' : Acc h1 h2 tRk v2 (rowsT (acc ++ [⟨a, tx, true, z⟩])) := by
                        simp only [rowsT, List.map_append, List.map_cons, List.map_nil] at a2 ⊢
                        exact a2
                      rw [r_lpb rc_rScan_b1.eq_1]
                      simp only [sim, simB, Nat.reduceAdd, Nat.reduceSub, List.replicate, reduceCtorEq, Nat.reduceLeDiff, Nat.reduceLT, clearA, hlt2, sl, cl, e2]
                      exact next (a + 1 + n, _) _ _ (by simp only; omega) ⟨_, _, _, _, _, _, _, _, _, _, _, _, _, rfl, a2', g2, so2⟩
                  · rw [← d3, List.getElem?_drop] at hx
                    have hlt2 : ((a + 1 + n : Nat) : Int) < (s.length : Int) := by
                      have := (List.getElem?_eq_some_iff.1 hx).1
                      omega
                    cases hlg : longD tx with
                    | none =>
                      rw [none_ hlg] at hQ
                      rw [hlg] at cl
                      simp only at cl
                      rw [r_lpb rc_rScan_b1.eq_1]
                      simp only [sim, simB, Nat.reduceAdd, Nat.reduceSub, List.replicate, reduceCtorEq, Nat.reduceLeDiff, Nat.reduceLT, clearA, hlt2, ix_str hx, rd, hfx, sl, cl, cF, cf]
                      exact hQ _ _ (.tup [.nils, fltT (7, a)]) (by simp only [sim, simB, Nat.reduceAdd, Nat.reduceSub, List.replicate, reduceCtorEq, Nat.reduceLeDiff, Nat.reduceLT, clearA]) ((g1.trans gg).set (by omega)) rfl
                    | some z =>
                      have so2 := more z hlg
                      rw [hlg] at cl
                      simp only at cl
                      obtain ⟨v2, h2, e2, a2, g2, k2, m2⟩ := acc_app ha gg (row := TD.row ⟨a, tx, true, z⟩) rfl (by rw [List.length_map]; simp only; omega)
                      simp only [TD.row] at e2
                      have a2' : Acc h1 h2 tRk v2 (rowsT (acc ++ [⟨a, tx, true, z⟩])) := by
                        simp only [rowsT, List.map_append, List.map_cons, List.map_nil] at a2 ⊢
                        exact a2
                      rw [r_lpb rc_rScan_b1.eq_1]
                      simp only [sim, simB, Nat.reduceAdd, Nat.reduceSub, List.replicate, reduceCtorEq, Nat.reduceLeDiff, Nat.reduceLT, clearA, hlt2, ix_str hx, rd, hfx, sl, cl, e2]
                      exact next (a + 1 + n, _) _ _ (by simp only; omega) ⟨_, _, _, _, _, _, _, _, _, _, _, _, _, rfl, a2', g2, so2⟩
              · rw [r_lpb rc_rScan_b3.eq_1]
                simp only [sim, simB, Nat.reduceAdd, Nat.reduceSub, List.replicate, reduceCtorEq, Nat.reduceLeDiff, Nat.reduceLT, clearA, hlt, ix_str d1, w1, x32, x9, x10, x13, z1, z2, z3, z4, x40, x41, y40, y41, x45, rl, hl, rd, q1, q2]
                refine loop_Q (fun k V h'' => ∃ w16, V = [.str s, .nils, .ptr h.n 0 0, v, .int .i64 (a : Int), .int .u8 c.toNat, .int .i64 ((a + 1 + k : Nat) : Int), w7, w8, .bool false, .bool true, .bool false, .bool false, .bool false, w14, .bool true, w16, w17] ∧ h'' = h') n ⟨_, rfl, rfl⟩ ?_ ?_
                · rintro k V h'' hk ⟨w16', rfl, rfl⟩ next2
                  obtain ⟨x, hx, hfx⟩ := hin k hk
                  rw [← d3, List.getElem?_drop] at hx
                  have hlt2 : ((a + 1 + k : Nat) : Int) < (s.length : Int) := by omega
                  have w2 : IntKind.wrap .i64 (((a + 1 + k : Nat) : Int) + 1) = ((a + 1 + (k + 1) : Nat) : Int) := w64' (by omega) (by omega) (by omega)
                  rw [r_lpb rc_rScan_b1.eq_1]
                  simp only [sim, simB, Nat.reduceAdd, Nat.reduceSub, List.replicate, reduceCtorEq, Nat.reduceLeDiff, Nat.reduceLT, clearA, hlt2, ix_str hx, rd, hfx, w2]
                  exact next2 _ _ ⟨_, rfl, rfl⟩
                · rintro V h'' ⟨w16', rfl, rfl⟩
                  rcases hend with he | ⟨x, hx, hfx⟩
                  · have hlt2 : ¬ ((a + 1 + n : Nat) : Int) < (s.length : Int) := by omega
                    cases hlg : longD tx with
                    | none =>
                      rw [none_ hlg] at hQ
                      rw [hlg] at cl
                      simp only at cl
                      rw [r_lpb rc_rScan_b1.eq_1]
                      simp only [sim, simB, Nat.reduceAdd, Nat.reduceSub, List.replicate, reduceCtorEq, Nat.reduceLeDiff, Nat.reduceLT, clearA, hlt2, sl, cl, cF, cf]
                      exact hQ _ _ (.tup [.nils, fltT (7, a)]) (by simp only [sim, simB, Nat.reduceAdd, Nat.reduceSub, List.replicate, reduceCtorEq, Nat.reduceLeDiff, Nat.reduceLT, clearA]) ((g1.trans gg).set (by omega)) rfl
                    | some z =>
                      have so2 := more z hlg
                      rw [hlg] at cl
                      simp only at cl
                      obtain ⟨v2, h2, e2, a2, g2, k2, m2⟩ := acc_app ha gg (row := TD.row ⟨a, tx, true, z⟩) rfl (by rw [List.length_map]; simp only; omega)
                      simp only [TD.row] at e2
                      have a2' : Acc h1 h2 tRk v2 (rowsT (acc ++ [⟨a, tx, true, z⟩])) := by
                        simp only [rowsT, List.map_append, List.map_cons, List.map_nil] at a2 ⊢
                        exact a2
                      rw [r_lpb rc_rScan_b1.eq_1]
                      simp only [sim, simB, Nat.reduceAdd, Nat.reduceSub, List.replicate, reduceCtorEq, Nat.reduceLeDiff, Nat.reduceLT, clearA, hlt2, sl, cl, e2]
                      exact next (a + 1 + n, _) _ _ (by simp only; omega) ⟨_, _, _, _, _, _, _, _, _, _, _, _, _, rfl, a2', g2, so2⟩
                  · rw [← d3, List.getElem?_drop] at hx
                    have hlt2 : ((a + 1 + n : Nat) : Int) < (s.length : Int) := by
                      have := (List.getElem?_eq_some_iff.1 hx).1
                      omega
                    cases hlg : longD tx with
                    | none =>
                      rw [none_ hlg] at hQ
                      rw [hlg] at cl
                      simp only at cl
                      rw [r_lpb rc_rScan_b1.eq_1]
                      simp only [sim, simB, Nat.reduceAdd, Nat.reduceSub, List.replicate, reduceCtorEq, Nat.reduceLeDiff, Nat.reduceLT, clearA, hlt2, ix_str hx, rd, hfx, sl, cl, cF, cf]
                      exact hQ _ _ (.tup [.nils, fltT (7, a)]) (by simp only [sim, simB, Nat.reduceAdd, Nat.reduceSub, List.replicate, reduceCtorEq, Nat.reduceLeDiff, Nat.reduceLT, clearA]) ((g1.trans gg).set (by omega)) rfl
                    | some z =>
                      have so2 := more z hlg
                      rw [hlg] at cl
                      simp only at cl
                      obtain ⟨v2, h2, e2, a2, g2, k2, m2⟩ := acc_app ha gg (row := TD.row ⟨a, tx, true, z⟩) rfl (by rw [List.length_map]; simp only; omega)
                      simp only [TD.row] at e2
                      have a2' : Acc h1 h2 tRk v2 (rowsT (acc ++ [⟨a, tx, true, z⟩])) := by
                        simp only [rowsT, List.map_append, List.map_cons, List.map_nil] at a2 ⊢
                        exact a2
                      rw [r_lpb rc_rScan_b1.eq_1]
                      simp only [sim, simB, Nat.reduceAdd, Nat.reduceSub, List.replicate, reduceCtorEq, Nat.reduceLeDiff, Nat.reduceLT, clearA, hlt2, ix_str hx, rd, hfx, sl, cl, e2]
                      exact next (a + 1 + n, _) _ _ (by simp only; omega) ⟨_, _, _, _, _, _, _, _, _, _, _, _, _, rfl, a2', g2, so2⟩
            · have ho : oneD a (c :: r) = none := by rw [oneD, if_neg hbr, hl, if_neg (by simp), if_neg hdg]
              have e := scan_err h6 (soFar_none so hd hb ho)
              rw [e] at hQ
              have y1 : digB c = false := by
                cases h9 : digB c with
                | true => exact absurd (.inl h9) hdg
                | false => rfl
              have y2 : decide (c = 45) = false := decide_eq_false fun e => hdg (.inr e)
              rw [r_lpb rc_rScan_b3.eq_1]
              simp only [sim, simB, Nat.reduceAdd, Nat.reduceSub, List.replicate, reduceCtorEq, Nat.reduceLeDiff, Nat.reduceLT, clearA, hlt, ix_str d1, w1, x32, x9, x10, x13, z1, z2, z3, z4, x40, x41, x45, y40, y41, rl, hl, rd, y1, y2, cF, cf]
              exact hQ _ _ (.tup [.nils, fltT (7, a)]) (by simp only [sim, simB, Nat.reduceAdd, Nat.reduceSub, List.replicate, reduceCtorEq, Nat.reduceLeDiff, Nat.reduceLT, clearA]) ((g1.trans gg).set (by omega)) rfl
end
end Go.Proofs.YtngphebjmmencaaDoor
namespace Go.Proofs.YtngphebjmmencaaDoor
set_option linter.unusedSimpArgs false
set_option linter.unusedVariables false
open Go

theorem eqT {a b c d : Int} : binR .agg (some [.int .i64, .int .i64]) false .neq (.agg [.int .i64 a, .int .i64 b]) (.agg [.int .i64 c, .int .i64 d]) = some (.bool (!(decide (a = c) && decide (b = d)))) := by
  have e : ∀ x y : Int, (x == y) = decide (x = y) := fun x y => rfl
  simp [binR, eqCells, e]
theorem ok_pos {t : TD} (h : t.ok) : 0 < t.text.length := by
  rcases h with ⟨h1 | h1, _⟩ | ⟨⟨c, s, h1, _⟩, _⟩ | ⟨⟨c, s, h1, _⟩, _⟩ <;> simp [h1]
theorem few_toks : ∀ {l : List TD}, (∀ t ∈ l, t.ok) → l.length ≤ (l.map fun t => t.text.length).sum
  | [], _ => Nat.le_refl _
  | t :: l, h => by
    have := few_toks fun x hx => h x (List.mem_cons_of_mem t hx)
    have := ok_pos (h t (by simp))
    simp only [List.length_cons, List.map_cons, List.sum_cons]
    omega
theorem scanR_cases (s : List UInt8) : (scanR s).1 = [] ∧ (scanR s).2.1 ≠ 0 ∨ (s.length ≤ 6000 ∧ ∃ l, scanD 0 0 s = .inl l ∧ scanR s = (l, (0, 0))) := by
  by_cases h6 : 6000 < s.length
  · exact .inl (by rw [scanR, if_pos h6]; exact ⟨rfl, by decide⟩)
  · cases h : scanD 0 0 s with
    | inl l => exact .inr ⟨by omega, l, rfl, scan_out h6 h⟩
    | inr e => exact .inl (by rw [scan_err h6 h]; exact ⟨rfl, by show (7 : Int) ≠ 0; decide⟩)
theorem scanR_len (s : List UInt8) : (scanR s).1.length ≤ s.length := by
  rcases scanR_cases s with ⟨h, _⟩ | ⟨_, l, h1, h2⟩
  · rw [h]
    exact Nat.zero_le _
  · rw [h2]
    obtain ⟨o1, o2⟩ := scan_ok _ 0 s (Nat.le_refl _) l h1
    exact Nat.le_trans (few_toks o1) o2

theorem long5 : longD [45, 53] = some (-5) := by
  have : Lib.parseIntB 64 [45, 53] = .ok (-5) := by decide +kernel
  simp [longD, this, Lib.itoa, Lib.decDigits]
theorem long55 : longD [53] = some 5 := by
  have : Lib.parseIntB 64 [53] = .ok 5 := by decide +kernel
  simp [longD, this, Lib.itoa, Lib.decDigits]
theorem long05 : longD [48, 53] = none := by
  have : Lib.parseIntB 64 [48, 53] = .ok 5 := by decide +kernel
  simp [longD, this, Lib.itoa, Lib.decDigits]
def tk1 : List TD := [⟨0, [40], false, 0⟩, ⟨1, [110, 117, 109], false, 0⟩, ⟨5, [45, 53], true, -5⟩, ⟨7, [41], false, 0⟩]
theorem scan1 : scanR [40, 110, 117, 109, 32, 45, 53, 41] = (tk1, (0, 0)) := by
  refine scan_out (by decide) ?_
  simp [scanD, oneD, blankB, letB, digB, long5, tk1]
theorem scan2 : scanR [40, 53, 120] = ([⟨0, [40], false, 0⟩, ⟨1, [53], true, 5⟩, ⟨2, [120], false, 0⟩], (0, 0)) := by
  refine scan_out (by decide) ?_
  simp [scanD, oneD, blankB, letB, digB, long55]
theorem scan3 : scanR [48, 53] = ([], (7, 0)) := by
  refine scan_err (by decide) ?_
  simp [scanD, oneD, blankB, letB, digB, long05]

section
variable {h : AH}
theorem tokenBegun_run : runF Tryd.prog po 9 [] h = some (.inl (.bool true), h) := by
  have c1 : ∀ h, runF Tryd.prog po 10 [.str [40, 110, 117, 109, 32, 45, 53, 41]] h = some (.inl (.tup [.isl none tTk (rowsT tk1), .agg [.int .i64 0, .int .i64 0]]), h) := fun h => by
    have := tScan_run (h := h) [40, 110, 117, 109, 32, 45, 53, 41] (by decide)
    rw [scan1] at this
    exact this
  have c2 : ∀ h, runF Tryd.prog po 10 [.str [40, 53, 120]] h = some (.inl (.tup [.isl none tTk (rowsT [⟨0, [40], false, 0⟩, ⟨1, [53], true, 5⟩, ⟨2, [120], false, 0⟩]), .agg [.int .i64 0, .int .i64 0]]), h) := fun h => by
    have := tScan_run (h := h) [40, 53, 120] (by decide)
    rw [scan2] at this
    exact this
  have c3 : ∀ h, runF Tryd.prog po 10 [.str [48, 53]] h = some (.inl (.tup [.nils, .agg [.int .i64 7, .int .i64 0]]), h) := fun h => by
    have := tScan_run (h := h) [48, 53] (by decide)
    rw [scan3] at this
    exact this
  have i2 : ixaR (some tTk) none (.isl none tTk (rowsT tk1)) (.int .i64 2) = some (.ip [.int .i64 5, .str [45, 53], .bool true, .int .i64 (-5)] 0) := rfl
  have l4 : decide (((rowsT tk1).length : Int) = 4) = true := by decide
  refine runF_R fn_tokenBegun rfl ?_; unfold rc_tokenBegun
  simp only [sim, simB, Nat.reduceAdd, Nat.reduceSub, List.replicate, reduceCtorEq, Nat.reduceLeDiff, Nat.reduceLT, clearA, c1, c2, c3, i2, l4, Int.reduceEq]
  refine fg_yes ?_ rfl
  exact (by repeat (first | exact GrewA.refl _ | refine GrewA.trans ?_ (GrewA.push _ _) | refine GrewA.trans ?_ (GrewA.fresh _ _)))

set_option maxHeartbeats 1000000 in
theorem TokenScans_run (s : List UInt8) : runF Tryd.prog po 3 [.str s] h = some (.inl (.bool true), h) := by
  have vb := fun h => tokenBegun_run (h := h)
  by_cases h9 : 9000 < s.length
  · have h9' : (9000 : Int) < (s.length : Int) := by omega
    refine runF_E fn_TokenScans rfl fun Q hQ => ?_; unfold rc_TokenScans
    simp only [sim, simB, Nat.reduceAdd, Nat.reduceSub, List.replicate, reduceCtorEq, Nat.reduceLeDiff, Nat.reduceLT, clearA, vb, h9']
    exact hQ _ _ _ rfl (GrewA.refl _) rfl
  · have h9' : ¬ (9000 : Int) < (s.length : Int) := by omega
    have e1 := fun h => tScan_run (h := h) s (by omega)
    have e2 := fun h => rScan_run (h := h) s (by omega)
    have hlen := scanR_len s
    generalize scanR s = R at *
    obtain ⟨L, f1, f2⟩ := R
    simp only at e1 e2 hlen
    have m1 := isL_lst tTk (rowsT L)
    have m2 := isL_lst tRk (rowsT L)
    have ll : (rowsT L).length = L.length := List.length_map _
    have l1 := m1.len
    have l2 := m2.len
    rw [ll] at l1 l2
    have q1 := m1.fits
    have q2 := m2.fits
    refine runF_E fn_TokenScans rfl fun Q hQ => ?_; unfold rc_TokenScans
    simp only [sim, simB, Nat.reduceAdd, Nat.reduceSub, List.replicate, reduceCtorEq, Nat.reduceLeDiff, Nat.reduceLT, clearA, vb, h9', e1, e2, eqT, l1, l2, q1, q2, eq_self]
    refine loop_Q (fun i V h' => ∃ w10 w11, V = [.str s, .bool false, lstA tTk (rowsT L), .ptr h.n 0 0, lstA tRk (rowsT L), .ptr (h.n + 1) 0 0, .int .i64 (i : Nat), .bool false, .bool false, .bool false, w10, w11] ∧ h' = ((h.push [[.int .i64 f1, .int .i64 f2]]).push [[.int .i64 f1, .int .i64 f2]])) L.length ⟨_, _, rfl, rfl⟩ ?_ ?_
    · rintro i V h' hi ⟨w10, w11, rfl, rfl⟩ next
      have hlt : (i : Int) < (L.length : Int) := by omega
      have hwi := w64 (n := (i : Int) + 1) (by omega) (by omega)
      have hy : (rowsT L)[i]? = some (L[i].row) := by simp [hi]
      have x1 := m1.ix .i64 i _ hy
      have x2 := m2.ix .i64 i _ hy
      simp only [TD.row] at x1 x2
      rw [r_lpb rc_TokenScans_b1.eq_1]
      simp only [sim, simB, Nat.reduceAdd, Nat.reduceSub, List.replicate, reduceCtorEq, Nat.reduceLeDiff, Nat.reduceLT, clearA, l1, l2, q1, q2, hlt, x1, x2, eq_self, beq_self_eq_true, hwi]
      exact next _ _ ⟨_, _, rfl, rfl⟩
    · rintro V h' ⟨w10, w11, rfl, rfl⟩
      have hlt : ¬ (L.length : Int) < (L.length : Int) := by omega
      rw [r_lpb rc_TokenScans_b1.eq_1]
      simp only [sim, simB, Nat.reduceAdd, Nat.reduceSub, List.replicate, reduceCtorEq, Nat.reduceLeDiff, Nat.reduceLT, clearA, l1, q1, hlt]
      exact hQ _ _ _ rfl ((GrewA.push _ _).trans (GrewA.push _ _)) rfl

theorem tokT_take {sep : List UInt8} {L : List TD} {i : Nat} {y : TD} (hy : L[i]? = some y) : tokT sep (L.take (i + 1)) = tokT sep (L.take i) ++ (y.text ++ sep) := by
  rw [take_get hy, tokT_append]
  simp [tokT]
theorem tokT_le (sep : List UInt8) (L : List TD) (i : Nat) : (tokT sep (L.take i)).length ≤ (tokT sep L).length := by
  have := tokT_append sep (L.take i) (L.drop i)
  rw [List.take_append_drop] at this
  rw [this, List.length_append]
  omega
theorem bare_at {U L : List TD} (h : U.map TD.bare = L.map TD.bare) {i : Nat} (hi : i < U.length) (hj : i < L.length) : U[i].text = L[i].text ∧ U[i].num = L[i].num ∧ U[i].n = L[i].n := by
  have : (U.map TD.bare)[i]? = (L.map TD.bare)[i]? := by rw [h]
  simp only [List.getElem?_map, List.getElem?_eq_getElem hi, List.getElem?_eq_getElem hj, Option.map_some, Option.some.injEq, TD.bare, Prod.mk.injEq] at this
  exact this
set_option maxHeartbeats 2000000 in
theorem TokenBack_run (s : List UInt8) : runF Tryd.prog po 4 [.str s] h = some (.inl (.bool true), h) := by
  have vb := fun h => tokenBegun_run (h := h)
  by_cases h9 : 2000 < s.length
  · have h9' : (2000 : Int) < (s.length : Int) := by omega
    refine runF_E fn_TokenBack rfl fun Q hQ => ?_; unfold rc_TokenBack
    simp only [sim, simB, Nat.reduceAdd, Nat.reduceSub, List.replicate, reduceCtorEq, Nat.reduceLeDiff, Nat.reduceLT, clearA, vb, h9']
    exact hQ _ _ _ rfl (GrewA.refl _) rfl
  · have h9' : ¬ (2000 : Int) < (s.length : Int) := by omega
    have e1 := fun h => tScan_run (h := h) s (by omega)
    rcases scanR_cases s with ⟨n1, n2⟩ | ⟨_, L, k1, k2⟩
    · generalize scanR s = R at *
      obtain ⟨L, f1, f2⟩ := R
      simp only at e1 n1 n2
      subst n1
      have z : lstA tTk (rowsT []) = .nils := rfl
      rw [z] at e1
      have dn : decide (f1 = 0) = false := decide_eq_false n2
      refine runF_E fn_TokenBack rfl fun Q hQ => ?_; unfold rc_TokenBack
      simp only [sim, simB, Nat.reduceAdd, Nat.reduceSub, List.replicate, reduceCtorEq, Nat.reduceLeDiff, Nat.reduceLT, clearA, vb, h9', e1, dn, len_nils, fits_nils, Int.cast_ofNat_Int, eq_self]
      exact hQ _ _ _ rfl (GrewA.push _ _) rfl
    · obtain ⟨o1, o2⟩ := scan_ok _ 0 s (Nat.le_refl _) L k1
      have o3 := few_toks o1
      obtain ⟨U, u1, u2⟩ := scan_back (sep := [32, 10]) (by simp) (by decide) L 0 o1
      have tl := tokT_len [32, 10] L
      simp only [List.length_cons, List.length_nil] at tl
      have e2 := fun h => tScan_run (h := h) (tokT [32, 10] L) (by omega)
      have su := scan_out (by omega) u1
      rw [k2] at e1
      rw [su] at e2
      simp only at e1 e2
      have lu : U.length = L.length := by
        have := congrArg List.length u2
        simpa using this
      have m1 := isL_lst tTk (rowsT L)
      have m2 := isL_lst tTk (rowsT U)
      have l1 := m1.len
      have l2 := m2.len
      rw [List.length_map] at l1 l2
      rw [lu] at l2
      have q1 := m1.fits
      have q2 := m2.fits
      refine runF_E fn_TokenBack rfl fun Q hQ => ?_; unfold rc_TokenBack
      simp only [sim, simB, Nat.reduceAdd, Nat.reduceSub, List.replicate, reduceCtorEq, Nat.reduceLeDiff, Nat.reduceLT, clearA, vb, h9', e1, eq_self]
      refine loop_Q (fun i V h' => ∃ w12, V = [.str s, .bool false, lstA tTk (rowsT L), .ptr h.n 0 0, .str (tokT [32, 10] (L.take i)), .int .i64 (i : Nat), .junk, .junk, .junk, .bool false, .bool false, .bool false, w12, .junk, .junk, .junk] ∧ h' = h.push [[.int .i64 0, .int .i64 0]]) L.length ⟨_, rfl, rfl⟩ ?_ ?_
      · rintro i V h' hi ⟨w12, rfl, rfl⟩ next
        have hlt : (i : Int) < (L.length : Int) := by omega
        have hwi := w64 (n := (i : Int) + 1) (by omega) (by omega)
        have hy : (rowsT L)[i]? = some (L[i].row) := by simp [hi]
        have x1 := m1.ix .i64 i _ hy
        simp only [TD.row] at x1
        have ht := tokT_le [32, 10] L (i + 1)
        have hg : L[i]? = some L[i] := List.getElem?_eq_getElem hi
        rw [tokT_take hg] at ht
        simp only [List.length_append, List.length_cons, List.length_nil] at ht
        have s1 : binA .str .add (.str L[i].text) (.str [32, 10]) = some (.str (L[i].text ++ [32, 10])) := s_add rfl (by simp only [List.length_cons, List.length_nil]; omega)
        have s2 : binA .str .add (.str (tokT [32, 10] (L.take i))) (.str (L[i].text ++ [32, 10])) = some (.str (tokT [32, 10] (L.take (i + 1)))) := s_add (tokT_take hg).symm (by simp only [List.length_append, List.length_cons, List.length_nil]; omega)
        rw [r_lpb rc_TokenBack_b2.eq_1]
        simp only [sim, simB, Nat.reduceAdd, Nat.reduceSub, List.replicate, reduceCtorEq, Nat.reduceLeDiff, Nat.reduceLT, clearA, l1, q1, hlt, x1, s1, s2, hwi]
        exact next _ _ ⟨_, rfl, rfl⟩
      · rintro V h' ⟨w12, rfl, rfl⟩
        have hlt : ¬ (L.length : Int) < (L.length : Int) := by omega
        rw [List.take_length]
        rw [r_lpb rc_TokenBack_b2.eq_1]
        simp only [sim, simB, Nat.reduceAdd, Nat.reduceSub, List.replicate, reduceCtorEq, Nat.reduceLeDiff, Nat.reduceLT, clearA, l1, l2, q1, q2, hlt, e2, eq_self]
        refine loop_Q (fun i V h' => ∃ w14 w15, V = [.str s, .bool false, lstA tTk (rowsT L), .ptr h.n 0 0, .str (tokT [32, 10] L), .int .i64 (L.length : Nat), lstA tTk (rowsT U), .ptr (h.n + 1) 0 0, .int .i64 (i : Nat), .bool false, .bool false, .bool false, .bool false, .bool false, w14, w15] ∧ h' = (h.push [[.int .i64 0, .int .i64 0]]).push [[.int .i64 0, .int .i64 0]]) L.length ⟨_, _, rfl, rfl⟩ ?_ ?_
        · rintro i V h' hi ⟨w14, w15, rfl, rfl⟩ next
          have hlt : (i : Int) < (L.length : Int) := by omega
          have hwi := w64 (n := (i : Int) + 1) (by omega) (by omega)
          have hu : i < U.length := by omega
          have hy : (rowsT L)[i]? = some (L[i].row) := by simp [hi]
          have hz : (rowsT U)[i]? = some (U[i].row) := by simp [hu]
          have x1 := m1.ix .i64 i _ hy
          have x2 := m2.ix .i64 i _ hz
          obtain ⟨p1, p2, p3⟩ := bare_at u2 hu hi
          simp only [TD.row] at x1 x2
          rw [p1, p2, p3] at x2
          rw [r_lpb rc_TokenBack_b1.eq_1]
          simp only [sim, simB, Nat.reduceAdd, Nat.reduceSub, List.replicate, reduceCtorEq, Nat.reduceLeDiff, Nat.reduceLT, clearA, l1, l2, q1, q2, hlt, x1, x2, eq_self, beq_self_eq_true, hwi]
          exact next _ _ ⟨_, _, rfl, rfl⟩
        · rintro V h' ⟨w14, w15, rfl, rfl⟩
          have hlt : ¬ (L.length : Int) < (L.length : Int) := by omega
          rw [r_lpb rc_TokenBack_b1.eq_1]
          simp only [sim, simB, Nat.reduceAdd, Nat.reduceSub, List.replicate, reduceCtorEq, Nat.reduceLeDiff, Nat.reduceLT, clearA, l1, q1, hlt]
          exact hQ _ _ _ rfl ((GrewA.push _ _).trans (GrewA.push _ _)) rfl
end
end Go.Proofs.YtngphebjmmencaaDoor
