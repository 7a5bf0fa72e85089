/- Bits and widths of numbers that are not negative (of no program). -/
import Derived.Test.YtnabkcdchklnpaaDoorAm14
set_option linter.unusedVariables false
set_option linter.unusedSimpArgs false
namespace Go.Proofs.YtnabkcdchklnpaaDoor.Am
set_option linter.unusedVariables false
set_option linter.unusedSimpArgs false
namespace K
/-! Bits and widths of numbers that are not negative. -/
end K
end Go.Proofs.YtnabkcdchklnpaaDoor.Am
