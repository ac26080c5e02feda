/- Texts in a slice. -/
import Derived.Test.YtpddilkonkkppaaGreatDoorRows
import Derived.Test.YtpddilkonkkppaaGreatDoorBase
namespace Go.Proofs.YtpddilkonkkppaaGreatDoor
open Go Go.X Go.Proofs Go.ChangeShapes Go.WideShapes Go.ChangeAt Go.RowKit
open Go.ChangeMaps (open_string shut_string)
set_option maxHeartbeats 1000000
set_option maxRecDepth 20000
set_option linter.unusedVariables false
set_option linter.unusedSimpArgs false
def encS (x : ByteArray) : List Value := [.string x]
def zeroS : List Value := [.string ByteArray.empty]
theorem encS_one (x : ByteArray) : allOne (encS x) = true := rfl
theorem elemS : ElemT Tryz.prog 102 9 1 16 zeroS := ElemT.mk' (by kernel_rfl) (by kernel_rfl)

end Go.Proofs.YtpddilkonkkppaaGreatDoor
