/- The pieces of Across, and of what it defers, as lists of steps. -/
import Derived.Test.YtioladnogpfeeaaPol
namespace Go.Proofs.Ytioladnogpfeeaa
set_option linter.unusedSimpArgs false
set_option linter.unusedVariables false
open Go

def rc_acr0 : List RS := [(.ops [(.i (.v 3) (.box 3 (.v 1))), (.i (.v 4) (.alloc [(.int .i64 0), (.int .i64 0), .nils])), (.i (.v 5) (.alloc [(.int .i64 0)]))])]
def rc_acr1 : List RS := [(.ops [(.i .l (.mv (.v 0))), (.i .l (.load true 3 (.v 3))), (.i .l (.call (.c (.fn 29 [] [])) [(.l 1), (.l 0)])), (.i (.v 6) (.mv (.l 0)))]), (.ops [(.i .l (.mv (.v 6))), (.i (.v 8) (.bin (.int .i64) .neq (.l 0) (.c (.int .i64 0))))]), (.cond (.v 8) [(.ops [(.i .l (.build [(.int .i64 0), (.int .i64 0), .nils] [(0, 1), (1, 1), (2, 1)] [])), (.i .l (.mv (.v 6))), (.i .n (.store 3 (.v 4) (.l 1))), (.i .n (.store 1 (.v 5) (.l 0)))]), .ret] [])]
def rc_acr2 : List RS := [(.ops [(.i .l (.mv (.v 0))), (.i .l (.mv (.v 2))), (.i .l (.build [.nilp, .nils] [(0, 1), (1, 1)] [(0, (.l 1)), (1, (.l 0))])), (.i .l (.box 2 (.l 0))), (.i (.v 7) (.mv (.l 0)))]), (.ops [(.i .l (.mv (.v 7))), (.i .l (.load true 3 (.v 3))), (.i .l (.call (.c (.fn 49 [] [])) [(.l 1), (.l 0)])), (.i .n (.store 3 (.v 4) (.l 0))), (.i .n (.store 1 (.v 5) (.c (.int .i64 0))))]), .ret]
def rc_acr3 : List RS := [(.ops [(.i .l (.mv (.v 0))), (.i .l (.mv (.v 2))), (.i .l (.build [.nilp, .nils] [(0, 1), (1, 1)] [(0, (.l 1)), (1, (.l 0))])), (.i .l (.box 2 (.l 0))), (.i (.v 7) (.mv (.l 0)))])]
def rc_acc1 : List RS := [(.ops [(.i .l (.mv (.v 2))), (.i (.v 5) (.binG .iface none true .neq (.l 0) (.c .nili)))]), (.cond (.v 5) [(.ops [(.i .l (.mv (.v 2))), (.i .l (.tas 94 true (.l 0))), (.i .l (.mv (.l 0))), (.i .l (.ext (.l 0) 0)), (.i .l (.ext (.l 1) 1)), (.i (.v 3) (.mv (.l 1))), (.i (.v 4) (.mv (.l 0)))]), (.ops [(.i .l (.mv (.v 4))), (.i (.v 6) (.un .not (.l 0)))]), (.cond (.v 6) [(.ops [(.i .l (.mv (.v 2))), (.i .n (.pan (.l 0)))])] []), (.ops [(.i .l (.build [(.int .i64 0), (.int .i64 0), .nils] [(0, 1), (1, 1), (2, 1)] [])), (.i .l (.mv (.v 3))), (.i .n (.store 3 (.v 0) (.l 1))), (.i .n (.store 1 (.v 1) (.l 0)))])] [])]
end Go.Proofs.Ytioladnogpfeeaa
