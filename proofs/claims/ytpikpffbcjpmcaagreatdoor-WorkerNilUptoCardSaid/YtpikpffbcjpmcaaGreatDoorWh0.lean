/- what the functions compute, as plain Lean functions, and that they do -/
import Derived.Test.YtpikpffbcjpmcaaGreatDoorChk
import Derived.Test.YtpikpffbcjpmcaaGreatDoorQ
import Derived.Test.YtpikpffbcjpmcaaGreatDoorTl
import Derived.Test.YtpikpffbcjpmcaaGreatDoorPa
import Derived.Test.YtpikpffbcjpmcaaGreatDoorSg
import Derived.Test.YtpikpffbcjpmcaaGreatDoorRn
import Derived.Test.YtpikpffbcjpmcaaGreatDoorS
import Derived.Test.YtpikpffbcjpmcaaGreatDoorEqD
import Derived.Test.YtpikpffbcjpmcaaGreatDoorProg
namespace Go.Proofs.YtpikpffbcjpmcaaGreatDoor.Md
open Go Go.RowKit Go.Proofs.YtpikpffbcjpmcaaGreatDoor.SL Go.Proofs.YtpikpffbcjpmcaaGreatDoor.GX
set_option linter.unusedVariables false
set_option linter.unusedSimpArgs false
set_option maxRecDepth 100000
set_option maxHeartbeats 4000000
noncomputable section
variable {z w : World} {L : List HProp}
abbrev ro3 (a:Option Addr) (c:Nat) (l:List Int):HProp:=rowOf 3 1 encZ_i64 (.slice a l.length c) l
end
end Go.Proofs.YtpikpffbcjpmcaaGreatDoor.Md
