/- What these functions of the program compute, at every world: glosswright/graph.Target, glosswright/glosswrightref3.Target, glosswright/glosswrightlaw3.single. -/
import Derived.Test.YteoncmfiiknfbaaDoorGSearch
namespace Go.Proofs.YteoncmfiiknfbaaDoor
open Go.RowKit

theorem sz26_GTgt : (Tryd.prog.info? 26).map (·.size) = some 1 := by kernel_rfl
theorem sz28_GTgt : (Tryd.prog.info? 28).map (·.size) = some 1 := by kernel_rfl
theorem sz53_GTgt : (Tryd.prog.info? 53).map (·.size) = some 1 := by kernel_rfl
theorem sz55_GTgt : (Tryd.prog.info? 55).map (·.size) = some 2 := by kernel_rfl
theorem ze28_GTgt : (Tryd.prog.info? 28).map (·.zero) = some (some (.agg #[.slice none 0 0])) := by kernel_rfl
theorem ze55_GTgt : (Tryd.prog.info? 55).map (·.zero) = some (some (.agg #[.int .i64 0, .slice none 0 0])) := by kernel_rfl
theorem ze74_GTgt : (Tryd.prog.info? 74).map (·.zero) = some (some (.agg #[.int .i64 0, .int .i64 0])) := by kernel_rfl
end Go.Proofs.YteoncmfiiknfbaaDoor
