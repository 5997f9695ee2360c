/- the laws' walks of tokens. -/
import Derived.Test.YtngphebjmmencaaDoorTokS4
import Derived.Test.YtngphebjmmencaaDoorLaid
namespace Go.Proofs.YtngphebjmmencaaDoor
set_option linter.unusedSimpArgs false
set_option linter.unusedVariables false
open Go Go.RowKit

theorem tokenScans_walk (W : World) (s : ByteArray) (w : s.size ≤ maxLen) (hg : GoodW Tryd.prog W.heap.size W) : Law Tryd.prog 3 #[.string s] W :=
  law_of (vs := [.string s]) (TokenScans_run s.data.toList) (VRs.cons (vr_str s) VRs.nil) hg
theorem tokenBack_walk (W : World) (s : ByteArray) (w : s.size ≤ maxLen) (hg : GoodW Tryd.prog W.heap.size W) : Law Tryd.prog 4 #[.string s] W :=
  law_of (vs := [.string s]) (TokenBack_run s.data.toList) (VRs.cons (vr_str s) VRs.nil) hg
end Go.Proofs.YtngphebjmmencaaDoor
