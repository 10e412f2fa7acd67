/- The walks of slices.Equal over rows of cells, of cells.Same. -/
import Derived.Test.YtblbfoniimnkcaaGreatDoorLnBaseB
import Derived.Laws.OwnMore
import Derived.RegionTactic
import Derived.BigRegion
namespace Go.Proofs.YtblbfoniimnkcaaGreatDoor
open Go.RowKit

end Go.Proofs.YtblbfoniimnkcaaGreatDoor
