/- The walk of typing.Select. (Printed by wip/bldoc.py.) -/
import Derived.Test.YtblbfoniimnkcaaGreatDoorBgTM
import Derived.Test.YtblbfoniimnkcaaGreatDoorTOwn
import Derived.Test.YtblbfoniimnkcaaGreatDoorBgDr
import Derived.BigQuiet
import Derived.Deep.QuietTactic
namespace Go.Proofs.YtblbfoniimnkcaaGreatDoor
open Go.RowKit Go.Lib

end Go.Proofs.YtblbfoniimnkcaaGreatDoor
