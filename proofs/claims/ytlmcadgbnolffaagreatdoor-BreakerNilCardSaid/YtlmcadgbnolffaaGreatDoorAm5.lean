/- The abstract machine, fifth part: a program's types and functions as the machine takes them. -/
import Derived.Test.YtlmcadgbnolffaaGreatDoorAm4
namespace Go.Proofs.YtlmcadgbnolffaaGreatDoor.Am
noncomputable section
def isAggD : TypeDesc → Bool
  | .struct _ => true
  | .array _ _ => true
  | _ => false
def tyOf (p : Program) (t : Nat) : Option Ty :=
  match p.info? t, p.underlying t with
  | some i, some d => match i.zero with
    | some z => match Nat.beq (llen (ofVs z.cells.toList)) i.size with
      | true => some ⟨d, i.size, i.bytes, isAggD d, ofVs z.cells.toList, ofV z⟩
      | false => none
    | none => none
  | _, _ => none
def fnOf (p : Program) (f : Nat) : Option Fn :=
  match p.funcs[f]? with
  | some fn => match fn.body with
    | some b => some ⟨fn.ntmps, b, fn.results.toList⟩
    | none => none
  | none => none
def gOf (p : Program) (ext : Nat → Nat) : G := ⟨tyOf p, fnOf p, ext⟩
end
end Go.Proofs.YtlmcadgbnolffaaGreatDoor.Am
