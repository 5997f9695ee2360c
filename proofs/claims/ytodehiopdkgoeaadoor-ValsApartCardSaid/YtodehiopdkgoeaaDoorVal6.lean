/- vals: the laws' walks. -/
import Derived.Test.YtodehiopdkgoeaaDoorVal5
import Derived.Test.YtodehiopdkgoeaaDoorLaid
namespace Go.Proofs.YtodehiopdkgoeaaDoor
set_option linter.unusedSimpArgs false
set_option linter.unusedVariables false
open Go Go.RowKit

theorem valsDoes_walk {n0 n1 : Nat} {r0 r1 : List AV} {x0 x1 : Value} (W : World) (t0 : TyA Tryd.prog n0 24 r0) (u0 : VR Tryd.prog (m0A W) h0A (.agg r0) x0) (t1 : TyA Tryd.prog n1 24 r1) (u1 : VR Tryd.prog (m0A W) h0A (.agg r1) x1) (hg : GoodW Tryd.prog W.heap.size W) :
    Law Tryd.prog 3 #[x0, x1] W := by
  obtain ⟨x, hx, wx⟩ := va_of _ _ t0
  obtain ⟨y, hy, _⟩ := va_of _ _ t1
  exact law_of (vs := [x0, x1]) (ValsDoes_run x y r0 r1 hx hy wx) (VRs.cons u0 (VRs.cons u1 VRs.nil)) hg
theorem valsApart_walk {n0 n1 : Nat} {r0 r1 : List AV} {x0 x1 : Value} (W : World) (t0 : TyA Tryd.prog n0 24 r0) (u0 : VR Tryd.prog (m0A W) h0A (.agg r0) x0) (t1 : TyA Tryd.prog n1 24 r1) (u1 : VR Tryd.prog (m0A W) h0A (.agg r1) x1) (hg : GoodW Tryd.prog W.heap.size W) :
    Law Tryd.prog 4 #[x0, x1] W := by
  obtain ⟨x, hx, wx⟩ := va_of _ _ t0
  obtain ⟨y, hy, wy⟩ := va_of _ _ t1
  exact law_of (vs := [x0, x1]) (ValsApart_run x y r0 r1 hx hy wx wy) (VRs.cons u0 (VRs.cons u1 VRs.nil)) hg
theorem valsParts_walk {n0 : Nat} {r0 : List AV} {x0 : Value} (W : World) (t0 : TyA Tryd.prog n0 24 r0) (u0 : VR Tryd.prog (m0A W) h0A (.agg r0) x0) (hg : GoodW Tryd.prog W.heap.size W) :
    Law Tryd.prog 5 #[x0] W := by
  obtain ⟨x, hx, _⟩ := va_of _ _ t0
  exact law_of (vs := [x0]) (ValsParts_run x r0 hx) (VRs.cons u0 VRs.nil) hg
end Go.Proofs.YtodehiopdkgoeaaDoor
