/- FoldTitles: what stays behind steps. -/
import Derived.Test.YtocaiijbhepnnaaGreatDoorFI
import Derived.Deep.DeepCutAuto
import Derived.Laws.EntriesVeiled
namespace Go.Proofs.YtocaiijbhepnnaaGreatDoor.foldTitles
open Go.Shelf Go.RowKit Go.Lib Go.Proofs.YtocaiijbhepnnaaGreatDoor.Am
theorem PB.ints {W0 w:World} {A:Option Addr} {n:Nat} {zs:List Int} {Yz:Nat} (h:dx W0 A n zs) (he:W0.heap.size=Yz) (hb:Below Yz W0 w):dx w A n zs:=
 ⟨h.len,h.small,λh0=>by
  obtain⟨g,o,e,hg,hc⟩:=h.at_ h0;exact⟨g,o,e,bJ hg hb.size,λj hj=>by rw[hb.cell (p:=⟨g,o+j,none⟩) (by rw[<-he];exact hg)];exact hc j hj⟩⟩
section
open Folds (dec bn bL)
theorem ig {w w':World} {A:Option Addr} {n:Nat} {zs:List Int} (h:dx w A n zs) (hb:Below w.heap.size w w'):dx w' A n zs:=PB.ints h rfl hb
theorem Vx (w:World):dx w none 0 []:=⟨rfl,aL _,λh=>absurd h (dA _)⟩
end
section
open Folds (dec bn bL)
