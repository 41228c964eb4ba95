/- SearchWide, walked: the document's letters, its Fold. -/
import Derived.Test.YtocaiijbhepnnaaGreatDoorFC
namespace Go.Proofs.YtocaiijbhepnnaaGreatDoor.searchWide
open Go.Shelf Go.RowKit Go.Lib Go.Proofs.YtocaiijbhepnnaaGreatDoor.Am
section
open Folds (dec aZ bQ)
open rU (bt G8 mM)
end
section
open rU (bt G8 mM)
end
section
open Folds (dec aZ bQ)
open rU (bt G8 mM)
end
section
open Folds (dec aZ bQ)
end
section
open Folds (dec aZ bQ)
