/- Texts as elements of a row. -/
import Derived.Test.YtiadfmbddkcleaaProg
import Derived.Test.YtiadfmbddkcleaaTxt
namespace Go.Proofs.Ytiadfmbddkcleaa
open Go.RowKit Go.Kit Go.Proofs.YtiadfmbddkcleaaW.PrintWords
theorem str_info : (Try.prog.info? 9).map (fun i => (i.zero, i.size, i.bytes)) = some (some (.string ByteArray.empty), 1, 16) := by kernel_rfl
end Go.Proofs.Ytiadfmbddkcleaa
