/- RoundsTell: the row's closed facts, limb by limb; no condition. -/
import Derived.Test.YtfhilbhmkifepaaRows
import Derived.WalkKit
import Derived.ProofKit
import Derived.OpenShut
namespace Go.Proofs.Ytfhilbhmkifepaa
open Go.ChangeShapes Go.WideShapes Go.ChangeAt Go.RowKit
theorem l_rec : Try.prog.recurses 4 = true := by kernel_rfl
theorem l_unf : Try.prog.unfollowed 4 = true := by kernel_rfl
theorem l_inp : Try.prog.inPlace 4 = [] := by kernel_rfl
theorem l_nam : Try.prog.varsNamed 4 = [] := by kernel_rfl
theorem l_laid : laidOutB Try.prog = true := by kernel_rfl
theorem l_maps : mapsRowed Try.prog = true := by kernel_rfl
theorem joinedRT : joinedFacts Try.prog 4 Try.f4 Rows.roundsTellSpec Rows.roundsTellRow = true := by
  unfold joinedFacts
  rw [l_rec, l_unf, l_inp, l_nam, l_laid, l_maps]
  kernel_rfl
end Go.Proofs.Ytfhilbhmkifepaa
