/- What the row's closed facts ask of the program alone: once for all laws of the seat. -/
import Derived.Test.YtljpjckklkpipaaDoorCards
import Derived.ProofKit
namespace Go.Proofs.YtljpjckklkpipaaDoor.Fct
set_option maxRecDepth 100000
theorem enters : Tryd.pinned.checked.prog.mayEnter = true := by kernel_rfl
theorem makes : (Tryd.pinned.checked.prog.make == some Rows.tableReadsRow.make) = true := by kernel_rfl
theorem mainIs : Tryd.pinned.checked.prog.mainIs = some (true, "6b24c727af5d447d82b1687893877140851fdf15ef9ef79920a171eb8c900232".toList) := by kernel_rfl
end Go.Proofs.YtljpjckklkpipaaDoor.Fct
