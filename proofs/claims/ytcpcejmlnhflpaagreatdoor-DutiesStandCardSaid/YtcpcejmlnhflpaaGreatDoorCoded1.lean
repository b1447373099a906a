/- coded of package statutelaw1: whether an error has a number. -/
import Derived.Test.YtcpcejmlnhflpaaGreatDoorErr
namespace Go.Proofs.YtcpcejmlnhflpaaGreatDoor.Err
open Go.RowKit

end Go.Proofs.YtcpcejmlnhflpaaGreatDoor.Err
