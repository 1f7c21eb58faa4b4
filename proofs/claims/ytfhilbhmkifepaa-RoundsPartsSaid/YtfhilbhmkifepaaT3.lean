/- RoundsParts: the row's closed facts, limb by limb; no condition. -/
import Derived.Test.YtfhilbhmkifepaaT0
namespace Go.Proofs.Ytfhilbhmkifepaa
open Go.ChangeShapes Go.WideShapes Go.ChangeAt Go.RowKit
theorem l_rec5 : Try.prog.recurses 5 = true := by kernel_rfl
theorem l_unf5 : Try.prog.unfollowed 5 = true := by kernel_rfl
theorem l_inp5 : Try.prog.inPlace 5 = [] := by kernel_rfl
theorem l_nam5 : Try.prog.varsNamed 5 = [] := by kernel_rfl
theorem joinedRP : joinedFacts Try.prog 5 Try.f5 Rows.roundsPartsSpec Rows.roundsPartsRow = true := by
  unfold joinedFacts
  rw [l_rec5, l_unf5, l_inp5, l_nam5, l_laid, l_maps]
  kernel_rfl
end Go.Proofs.Ytfhilbhmkifepaa
