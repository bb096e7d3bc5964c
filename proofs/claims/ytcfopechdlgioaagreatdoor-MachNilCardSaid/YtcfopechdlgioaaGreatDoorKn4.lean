/- The reckoner at work: hindcast/hindcastlaw18.awake on one text. -/
import Derived.Test.YtcfopechdlgioaaGreatDoorKn3
import Derived.Test.YtcfopechdlgioaaGreatDoorProg
namespace Go.Proofs.YtcfopechdlgioaaGreatDoor
open Go.RowKit
def kn4 : Kn := ⟨10, [], .p (.c (.b true)), 2967, []⟩
set_option maxRecDepth 1000000 in
theorem kn4_ok : knOk kn4 (callE Tryz.prog (knE [kn3]) (some (314, 395)) 3000 kn4.f kn4.xs .nil 0) = true := by decide +kernel
end Go.Proofs.YtcfopechdlgioaaGreatDoor
