/- SearchAsks's closed run: a table of known calls. -/
import Derived.Test.YtocaiijbhepnnaaGreatDoorKB0
import Derived.Test.YtocaiijbhepnnaaGreatDoorKD0
set_option maxRecDepth 1000000
namespace Go.Proofs.YtocaiijbhepnnaaGreatDoor.searchAsks
open Go.Proofs.YtocaiijbhepnnaaGreatDoor.Am
noncomputable section
def anL:Nat→Am.AV→Am.H→Option Am.bJ:=Am.PI (Am.zW [] [(95,List.append q3 q4)]) (Am.zW x9 [(94,List.append q7 q8)])
theorem vU:Am.gq Tryz.prog (Am.cK Tryz.prog ext anL):=Am.wQ (Am.lG (nV (Am.jS af2 af3) Am.oZ)) (Am.lG (nV (Am.jS ajm ajn) Am.oZ))
def q10:List Known:=[⟨69,(S 2 21331 .nil),(.str ⟨2,29555⟩),[]⟩]
theorem ajo:AB q10:=oB vU [[]] (by kernel_rfl)
def q11:List Known:=[⟨69,(S 1 83 .nil),(.str ⟨1,115⟩),[]⟩]
theorem ajp:AB q11:=oB vU [[]] (by kernel_rfl)
def q12:List Known:=[⟨69,(S 1 116 .nil),(.str ⟨1,116⟩),[]⟩]
theorem ajq:AB q12:=oB vU [[]] (by kernel_rfl)
def q13:List Known:=[⟨69,(S 1 114 .nil),(.str ⟨1,114⟩),[]⟩]
theorem ajr:AB q13:=oB vU [[]] (by kernel_rfl)
def q14:List Known:=[⟨69,(S 1 97 .nil),(.str ⟨1,97⟩),[]⟩]
theorem ajs:AB q14:=oB vU [[]] (by kernel_rfl)
def q15:List Known:=[⟨69,(S 2 50079 .nil),(.str ⟨2,29555⟩),[]⟩]
theorem ajt:AB q15:=oB vU [[]] (by kernel_rfl)
def q16:List Known:=[⟨69,(S 1 101 .nil),(.str ⟨1,101⟩),[]⟩]
theorem aju:AB q16:=oB vU [[]] (by kernel_rfl)
def q17:List Known:=[⟨69,(S 0 0 .nil),(.str ⟨0,0⟩),[]⟩]
theorem ajv:AB q17:=oB vU [[]] (by kernel_rfl)
end
end Go.Proofs.YtocaiijbhepnnaaGreatDoor.searchAsks
