/- coded of package statutelaw1: whether an error has a number. -/
import Derived.Test.YtjnkcpeicocjhaaDoorErr
namespace Go.Proofs.YtjnkcpeicocjhaaDoor.Err
open Go.RowKit

end Go.Proofs.YtjnkcpeicocjhaaDoor.Err
