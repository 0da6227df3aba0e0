/-
  Contracts of strings.Builder's copyCheck and WriteString, of a builder that the call itself has made.
-/
import Derived.Test.YtbmdepbmejnlkaaDoorRows
import Derived.Test.YtbmdepbmejnlkaaDoorTapeA
import Derived.Test.YtbmdepbmejnlkaaDoorBuf
import Derived.Test.YtbmdepbmejnlkaaDoorShelf
import Derived.Lib.Builder
import Derived.Laws.Externs
namespace Go.Proofs.YtbmdepbmejnlkaaDoor
open Go.ChangeShapes Go.WideShapes Go.ChangeAt Go.RowKit
set_option maxRecDepth 100000
end Go.Proofs.YtbmdepbmejnlkaaDoor
