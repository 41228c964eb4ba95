/- SearchWide's closed run: a table of known calls. -/
import Derived.Test.YtocaiijbhepnnaaGreatDoorKB0
import Derived.Test.YtocaiijbhepnnaaGreatDoorKD0
set_option maxRecDepth 1000000
namespace Go.Proofs.YtocaiijbhepnnaaGreatDoor.searchWide
open Go.Proofs.YtocaiijbhepnnaaGreatDoor.Am
noncomputable section
def ake:Nat->Am.AV->Am.H->Option Am.bF:=Am.Vu (Am.AL [] [(95,List.append q3 q4)]) (Am.AL wP [(94,List.append q7 q8)])
theorem uM:Am.fO Tryz.prog (Am.bY Tryz.prog ext ake):=Am.CV (Am.lX (ny (Am.kE adw adx) Am.pY)) (Am.lX (ny (Am.kE agn agp) Am.pY))
def q10:List Known:=[⟨69,(S 2 21331 .nil),(.str ⟨2,29555⟩),[]⟩]
theorem agq:AB q10:=oB uM [[]] (by kernel_rfl)
def q11:List Known:=[⟨69,(S 1 83 .nil),(.str ⟨1,115⟩),[]⟩]
theorem agr:AB q11:=oB uM [[]] (by kernel_rfl)
def q12:List Known:=[⟨69,(S 1 116 .nil),(.str ⟨1,116⟩),[]⟩]
theorem ags:AB q12:=oB uM [[]] (by kernel_rfl)
def q13:List Known:=[⟨69,(S 1 114 .nil),(.str ⟨1,114⟩),[]⟩]
theorem agt:AB q13:=oB uM [[]] (by kernel_rfl)
def q14:List Known:=[⟨69,(S 1 97 .nil),(.str ⟨1,97⟩),[]⟩]
theorem agu:AB q14:=oB uM [[]] (by kernel_rfl)
def q15:List Known:=[⟨69,(S 2 50079 .nil),(.str ⟨2,29555⟩),[]⟩]
theorem agv:AB q15:=oB uM [[]] (by kernel_rfl)
def q16:List Known:=[⟨69,(S 1 101 .nil),(.str ⟨1,101⟩),[]⟩]
theorem agw:AB q16:=oB uM [[]] (by kernel_rfl)
def q17:List Known:=[⟨69,(S 0 0 .nil),(.str ⟨0,0⟩),[]⟩]
theorem agx:AB q17:=oB uM [[]] (by kernel_rfl)
