/- FoldTitles: rows of ints. -/
import Derived.Test.YtocaiijbhepnnaaGreatDoorGA
namespace Go.Proofs.YtocaiijbhepnnaaGreatDoor.foldTitles
open Go.Shelf Go.RowKit Go.Lib Go.Proofs.YtocaiijbhepnnaaGreatDoor.Am
