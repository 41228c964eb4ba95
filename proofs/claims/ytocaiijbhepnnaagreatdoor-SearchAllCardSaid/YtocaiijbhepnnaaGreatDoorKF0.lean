/- SearchAll's closed run: a table of known calls. -/
import Derived.Test.YtocaiijbhepnnaaGreatDoorKB0
import Derived.Test.YtocaiijbhepnnaaGreatDoorKD0
set_option maxRecDepth 1000000
namespace Go.Proofs.YtocaiijbhepnnaaGreatDoor.searchAll
open Go.Proofs.YtocaiijbhepnnaaGreatDoor.Am
noncomputable section
def anJ:Nat→Am.AV→Am.H→Option Am.bG:=Am.PI (Am.Aa [] [(95,List.append q3 q4)]) (Am.Aa yg [(94,q7)])
theorem vW:Am.fV Tryz.prog (Am.cu Tryz.prog ext anJ):=Am.wR (Am.lD (nX (Am.lF afY afZ) Am.o9)) (Am.lD (nX ajp Am.o9))
def q9:List Known:=[⟨69,(S 2 21331 .nil),(.str ⟨2,29555⟩),[]⟩]
theorem anK:AB q9:=oB vW [[]] (by kernel_rfl)
def q10:List Known:=[⟨69,(S 1 83 .nil),(.str ⟨1,115⟩),[]⟩]
theorem ajq:AB q10:=oB vW [[]] (by kernel_rfl)
def q11:List Known:=[⟨69,(S 1 116 .nil),(.str ⟨1,116⟩),[]⟩]
theorem ajr:AB q11:=oB vW [[]] (by kernel_rfl)
def q12:List Known:=[⟨69,(S 1 114 .nil),(.str ⟨1,114⟩),[]⟩]
theorem ajs:AB q12:=oB vW [[]] (by kernel_rfl)
def q13:List Known:=[⟨69,(S 1 97 .nil),(.str ⟨1,97⟩),[]⟩]
theorem ajt:AB q13:=oB vW [[]] (by kernel_rfl)
def q14:List Known:=[⟨69,(S 2 50079 .nil),(.str ⟨2,29555⟩),[]⟩]
theorem aju:AB q14:=oB vW [[]] (by kernel_rfl)
def q15:List Known:=[⟨69,(S 1 101 .nil),(.str ⟨1,101⟩),[]⟩]
theorem ajv:AB q15:=oB vW [[]] (by kernel_rfl)
def q16:List Known:=[⟨69,(S 0 0 .nil),(.str ⟨0,0⟩),[]⟩]
theorem ajw:AB q16:=oB vW [[]] (by kernel_rfl)
end
end Go.Proofs.YtocaiijbhepnnaaGreatDoor.searchAll
