/- The answers that the document fixes; what a comparison answers, by one row. -/
import Derived.Test.YtbndinaiclkajaaDoorQx17
import Derived.Test.YtbndinaiclkajaaDoorKComp
set_option linter.unusedVariables false
namespace Go.Proofs.YtbndinaiclkajaaDoor.K
open Go.RowKit Go.Proofs.YtbndinaiclkajaaDoor.H Go.Proofs.YtbndinaiclkajaaDoorW.PrintWords
set_option maxRecDepth 100000 in
theorem alive8 : Q.toolchestlaw05_alive.f 8 = some true := by kernel_rfl
set_option maxRecDepth 100000 in
theorem alive7 : Q.toolchestlaw05_alive.f 7 = some true := by kernel_rfl
theorem alive_k : ∃ k, Q.toolchestlaw05_alive.f (k + 1) = some true ∧ Q.toolchestlaw05_alive.f k = some true := ⟨7, alive8, alive7⟩
end Go.Proofs.YtbndinaiclkajaaDoor.K
