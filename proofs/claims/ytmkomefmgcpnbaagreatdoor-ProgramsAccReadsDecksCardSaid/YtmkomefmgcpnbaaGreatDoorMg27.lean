import Derived.Test.YtmkomefmgcpnbaaGreatDoorMg26
import Derived.Test.YtmkomefmgcpnbaaGreatDoorMg4
set_option linter.all false
set_option maxHeartbeats 12800000
set_option maxRecDepth 100000
namespace Pm
open _root_.Nat renaming ble→A6,blt→Be
def ofF:List Nat→Nat→Tr→(Nat→Tr→Option (Nat×List Nat))→Option (Nat×List Nat)
 |[],i,t,k=>k i t
 |x::l,i,t,k=>fN x fun x=>cond (Be x 4294967296) (SQ 18 t i x fun t=>ofF l (i+1) t k) none
def mI (f:Nat)(inp L:List Nat):Option (Nat×List Nat):=ofF L 0 .z fun n t=>cond (Be 0 n&&A6 n 65536) (Qc f t 0 0 0 0 inp []) none
end Pm
namespace Go.Proofs.YtmkomefmgcpnbaaGreatDoor
open Go Go.Proofs Go.RowKit
open Pg (Bs)
set_option maxRecDepth 100000
theorem z03:bn 1000 (bs (OI 16))=some Pm.Acc.img:=by decide+kernel
theorem yJ:(bn 1000 (bs (OI 4))).bind (Pm.mI 30000 [1,1,2,0,3,65,66])=some (0,[65,66]):=by decide+kernel
theorem tN:(bn 1000 (bs (OI 7))).bind (Pm.mI 30000 [2,0,1,3,3])=some (0,[1,3,2]):=by decide+kernel
theorem mJ:(bn 1000 (bs (OI 10))).bind (Pm.mI 30000 [0,0,0,9,8])=some (0,[9,8]):=by decide+kernel
theorem zG9:(bn 1000 (bs (OI 13))).bind (Pm.mI 30000 [9,0,5,0,22,2,6,23,0,33])=some (33,[66]):=by decide+kernel
end Go.Proofs.YtmkomefmgcpnbaaGreatDoor
