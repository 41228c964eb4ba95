/- FoldTitles: runes one by one. -/
import Derived.Test.YtocaiijbhepnnaaGreatDoorFJ
import Derived.Test.YtocaiijbhepnnaaGreatDoorGB
namespace Go.Proofs.YtocaiijbhepnnaaGreatDoor.foldTitles
open Go.Shelf Go.RowKit Go.Lib Go.Proofs.YtocaiijbhepnnaaGreatDoor.Am
section
open Folds (dec bn bL)
