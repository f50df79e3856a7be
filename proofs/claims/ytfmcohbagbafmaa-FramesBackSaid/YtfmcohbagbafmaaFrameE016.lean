/-
  Frames' bytes, and frames of bytes, as plain functions.
-/
import Derived.Test.YtfmcohbagbafmaaFrameD16
set_option linter.unusedVariables false
set_option linter.unusedSimpArgs false
open Go Go.Am
namespace Go.Proofs.Ytfmcohbagbafmaa

noncomputable def KE : Ctr := ctrOf E [(30, anyA, headc_k), (27, anyA, mask_k)]
theorem KE_ok : KOk E KE := ctr_cons headc_k_ok (ctr_cons mask_k_ok ctr_nil)

end Go.Proofs.Ytfmcohbagbafmaa
