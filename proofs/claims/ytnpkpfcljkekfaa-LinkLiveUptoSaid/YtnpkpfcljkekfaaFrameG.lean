/- Package frame: the shown start, and FrameEncodes. -/
import Derived.Test.YtnpkpfcljkekfaaKA
import Derived.Test.YtnpkpfcljkekfaaFrameQ
namespace Go.Proofs.Ytnpkpfcljkekfaa
open Go Go.RowKit
set_option linter.unusedVariables false
set_option linter.unusedSimpArgs false

theorem scan_shown : scan (7 :: frameB [97]) = ([[97]], 10) := by
  have h := scan_frame [97] [] (by decide)
  rw [List.append_nil, scan_nil] at h
  rw [scan_not 7 _ (by decide), h]
  rfl
end Go.Proofs.Ytnpkpfcljkekfaa
