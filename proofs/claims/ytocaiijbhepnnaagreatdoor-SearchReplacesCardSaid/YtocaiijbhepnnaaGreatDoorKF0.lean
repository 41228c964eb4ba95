/- SearchReplaces's closed run: a table of known calls. -/
import Derived.Test.YtocaiijbhepnnaaGreatDoorKB0
import Derived.Test.YtocaiijbhepnnaaGreatDoorKD0
set_option maxRecDepth 1000000
namespace Go.Proofs.YtocaiijbhepnnaaGreatDoor.searchReplaces
open Go.Proofs.YtocaiijbhepnnaaGreatDoor.Am
noncomputable section
def aoN:Nat->Am.AV->Am.H->Option Am.bI:=Am.Qy (Am.AU [] [(95,List.append q3 q4)]) (Am.AU yT [(94,List.append q7 q8)])
theorem wL:Am.gG Tryz.prog (Am.dh Tryz.prog ext aoN):=Am.xC (Am.mq (oU (Am.j6 ag4 ag5) Am.qb)) (Am.mq (oU (Am.j6 akl akm) Am.qb))
def q10:List Known:=[⟨69,(S 2 21331 .nil),(.str ⟨2,29555⟩),[]⟩]
theorem akn:AB q10:=oB wL [[]] (by kernel_rfl)
def q11:List Known:=[⟨69,(S 1 83 .nil),(.str ⟨1,115⟩),[]⟩]
theorem ako:AB q11:=oB wL [[]] (by kernel_rfl)
def q12:List Known:=[⟨69,(S 1 116 .nil),(.str ⟨1,116⟩),[]⟩]
theorem akp:AB q12:=oB wL [[]] (by kernel_rfl)
def q13:List Known:=[⟨69,(S 1 114 .nil),(.str ⟨1,114⟩),[]⟩]
theorem akq:AB q13:=oB wL [[]] (by kernel_rfl)
def q14:List Known:=[⟨69,(S 1 97 .nil),(.str ⟨1,97⟩),[]⟩]
theorem akr:AB q14:=oB wL [[]] (by kernel_rfl)
def q15:List Known:=[⟨69,(S 2 50079 .nil),(.str ⟨2,29555⟩),[]⟩]
theorem aks:AB q15:=oB wL [[]] (by kernel_rfl)
def q16:List Known:=[⟨69,(S 1 101 .nil),(.str ⟨1,101⟩),[]⟩]
theorem akt:AB q16:=oB wL [[]] (by kernel_rfl)
def q17:List Known:=[⟨69,(S 0 0 .nil),(.str ⟨0,0⟩),[]⟩]
theorem aku:AB q17:=oB wL [[]] (by kernel_rfl)
