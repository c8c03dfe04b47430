/- Contracts of slices.Concat, Grow, Equal and Clone at slices of bytes. -/
import Derived.Test.YtpfnphkgmjgmeaaProg
import Derived.Test.YtpfnphkgmjgmeaaBase
namespace Go.Proofs.Ytpfnphkgmjgmeaa
open Go Go.RowKit
set_option linter.unusedVariables false
set_option linter.unusedSimpArgs false
theorem infoU8 : (Try.prog.info? 5).map (fun i => (i.zero, i.size, i.bytes)) = some (some (.int .u8 0), 1, 1) := by kernel_rfl
end Go.Proofs.Ytpfnphkgmjgmeaa
