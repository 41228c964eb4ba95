/- SearchEach's closed run: a table of known calls. -/
import Derived.Test.YtocaiijbhepnnaaGreatDoorKB0
import Derived.Test.YtocaiijbhepnnaaGreatDoorKD0
set_option maxRecDepth 1000000
namespace Go.Proofs.YtocaiijbhepnnaaGreatDoor.searchEach
open Go.Proofs.YtocaiijbhepnnaaGreatDoor.Am
noncomputable section
def an4:Nat→Am.AV→Am.H→Option Am.bF:=Am.Qa (Am.Ah [] [(95,List.append q3 q4)]) (Am.Ah yA [(94,List.append q7 q8)])
theorem vY:Am.fV Tryz.prog (Am.cB Tryz.prog ext an4):=Am.wS (Am.lG (oh (Am.jR agq agr) Am.pq)) (Am.lG (oh (Am.jR ajG ajH) Am.pq))
def q10:List Known:=[⟨69,(S 2 21331 .nil),(.str ⟨2,29555⟩),[]⟩]
theorem ajI:AB q10:=oB vY [[]] (by kernel_rfl)
def q11:List Known:=[⟨69,(S 1 83 .nil),(.str ⟨1,115⟩),[]⟩]
theorem ajJ:AB q11:=oB vY [[]] (by kernel_rfl)
def q12:List Known:=[⟨69,(S 1 116 .nil),(.str ⟨1,116⟩),[]⟩]
theorem ajK:AB q12:=oB vY [[]] (by kernel_rfl)
def q13:List Known:=[⟨69,(S 1 114 .nil),(.str ⟨1,114⟩),[]⟩]
theorem ajL:AB q13:=oB vY [[]] (by kernel_rfl)
def q14:List Known:=[⟨69,(S 1 97 .nil),(.str ⟨1,97⟩),[]⟩]
theorem ajM:AB q14:=oB vY [[]] (by kernel_rfl)
def q15:List Known:=[⟨69,(S 2 50079 .nil),(.str ⟨2,29555⟩),[]⟩]
theorem ajN:AB q15:=oB vY [[]] (by kernel_rfl)
def q16:List Known:=[⟨69,(S 1 101 .nil),(.str ⟨1,101⟩),[]⟩]
theorem ajO:AB q16:=oB vY [[]] (by kernel_rfl)
def q17:List Known:=[⟨69,(S 0 0 .nil),(.str ⟨0,0⟩),[]⟩]
theorem ajP:AB q17:=oB vY [[]] (by kernel_rfl)
end
end Go.Proofs.YtocaiijbhepnnaaGreatDoor.searchEach
