/- EngineEpochs: its run at one argument. Conditions: none. -/
import Derived.Test.YtlomlkoimmpemaaGreatDoorEngineEpochsMs
import Derived.KernelRfl
namespace Go.Proofs.YtlomlkoimmpemaaGreatDoor.EngineEpochsRun
open Go Go.RowKit Am EkEnv
set_option linter.unusedVariables false
set_option maxRecDepth 100000
theorem run_at3 (el : Nat → TypeId) : F.endTrue (F.runF Tryz.prog ext pm12 60000 3 [.int .i64 3] ⟨layO el begin0, 11⟩) = true := by kernel_rfl
end Go.Proofs.YtlomlkoimmpemaaGreatDoor.EngineEpochsRun
