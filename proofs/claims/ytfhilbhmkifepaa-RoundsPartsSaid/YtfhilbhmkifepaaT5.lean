/- RoundsParts: the row's step; no condition. -/
import Derived.Test.YtfhilbhmkifepaaT4
import Derived.Test.YtfhilbhmkifepaaT3
namespace Go.Proofs.Ytfhilbhmkifepaa
open Go.ChangeShapes Go.WideShapes Go.ChangeAt Go.RowKit
namespace roundsParts
set_option maxRecDepth 100000 in
theorem lifted (os : Os) (started : os.Started) (H : Type) (enc : TypeId × Value → H) :
    ReturnsInHanded {} Try.checked os 5 .any (Rows.roundsPartsSpec.pre6 enc Try.prog Try.f5 Rows.roundsPartsRow.domain false) (Rows.roundsPartsSpec.post enc Try.prog Try.f5 false true false false) := by
  refine returnsInHanded_of_change (C := Try.checked) own started (by kernel_rfl) Try.func5
    (ChangeSpec.witness6 (enc := enc) (C := Try.checked) false ⟨#[], #[.agg #[.int .i64 0, .slice none 0 0, .int .i64 0], .int .i64 0], []⟩ 8 (by kernel_rfl) (by kernel_rfl) (by kernel_rfl) (by kernel_rfl)) ?_
  intro W base args ds gs before hval hW _ _
  exact contract H enc W base args ds gs before hval hW
theorem over : Rows.roundsPartsRow.holds Try.pinned (OpenSpec.ofChange Rows.roundsPartsSpec) :=
  OpenClaim.holds_of_wide 5 Try.f5 rfl rfl rfl rfl rfl rfl rfl ⟨rfl, rfl, rfl, rfl, rfl⟩ rfl rfl rfl rfl rfl (by kernel_rfl) Try.func5 joinedRP
    (of_decide_eq_true (by kernel_rfl)) (by unfold Func.isWrapper; rw [if_neg (of_decide_eq_false (by kernel_rfl))]; exact ⟨rfl, rfl⟩)
    (fun os started H enc _ => lifted os started H enc)
theorem proved : Rows.RoundsPartsSaid := over
end roundsParts
end Go.Proofs.Ytfhilbhmkifepaa
