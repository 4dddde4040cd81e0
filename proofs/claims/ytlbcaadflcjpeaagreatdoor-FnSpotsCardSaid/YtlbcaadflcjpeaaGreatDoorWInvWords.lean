-- PRINTED BY print.sh 35421559b90ae4d0a3588c463048766b98c2df88dd9212a6774a882060cdf62d: not written by this session
import Derived.Test.YtlbcaadflcjpeaaGreatDoorWInv
import Derived.Test.YtlbcaadflcjpeaaGreatDoorWFootNe
namespace Go.Proofs.YtlbcaadflcjpeaaGreatDoorW.PrintWords
open Go.RowKit
end Go.Proofs.YtlbcaadflcjpeaaGreatDoorW.PrintWords
namespace Go.Proofs.YtlbcaadflcjpeaaGreatDoorW.PrintLast
section
variable {ops : Array Oper} {a : Act} {o og : Oper} {g : Nat} {t : Tmp} {u : Bool}
end
end Go.Proofs.YtlbcaadflcjpeaaGreatDoorW.PrintLast
