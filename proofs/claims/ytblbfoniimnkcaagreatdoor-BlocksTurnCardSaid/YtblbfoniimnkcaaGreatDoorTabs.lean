/- What the two listed tables give the walks: utf8's tables lie in memory. -/
import Derived.Test.YtblbfoniimnkcaaGreatDoorRows
import Derived.Test.YtblbfoniimnkcaaGreatDoorProg
import Derived.Lib.LaidU8T
import Derived.PinnedBridge
import Derived.Lay
import Derived.LaidMore
import Derived.ProofKit
namespace Go.Proofs.YtblbfoniimnkcaaGreatDoor
open Go.Lib Go.Shelf

def tabRen : Ren := ⟨fun n => n, fun | 5 => 5 | 119 => 117 | 138 => 119 | 139 => 120 | n => n, fun | 3 => 0 | 4 => 1 | n => n⟩
theorem tabTypes : U8Types Tryz.prog tabRen := ⟨Tryz.underlying5, Tryz.underlying117, Tryz.underlying119, Tryz.underlying120⟩
theorem tabExtra : U8Extra Tryz.prog tabRen := ⟨by kernel_rfl, by kernel_rfl, by kernel_rfl, by kernel_rfl, by kernel_rfl, by kernel_rfl, by kernel_rfl⟩
theorem tabs_of {W : World} (h : laidMet Tryz.prog [("unicode/utf8.acceptRanges", Rows.laid_unicode_utf8_acceptRanges), ("unicode/utf8.first", Rows.laid_unicode_utf8_first)] W) : Lib.Utf8Tabs 0 1 W :=
  utf8Tabs_of_readsT tabTypes tabExtra (Pinned.utf8First_eq ▸ Lib.laidMet.reads h (.tail _ (.head _))) (Lib.laidMet.reads h (.head _))
end Go.Proofs.YtblbfoniimnkcaaGreatDoor
