/- FoldTitles's closed run: a table of known calls. -/
import Derived.Test.YtocaiijbhepnnaaGreatDoorKE0
set_option maxRecDepth 1000000
namespace Go.Proofs.YtocaiijbhepnnaaGreatDoor.foldTitles
open Go.Proofs.YtocaiijbhepnnaaGreatDoor.Am
noncomputable section
def aiE:Nat->Am.AV->Am.H->Option Am.bB:=Am.Uy (Am.uf [] [(95,List.append q3 q4),(52,q9)]) (Am.uf wO [(94,List.append q7 q8)])
theorem AP:Am.gM Tryz.prog (Am.dL Tryz.prog ext aiE):=Am.Ck (Am.lI (gy (Am.lN Zm Zn) (gy afs Am.pY))) (Am.lI (gy (Am.lN acp acr) Am.pY))
def q10:List Known:=[⟨46,(S 7 0x73747261c39f65 .nil),(.str ⟨7,0x53545241535345⟩),[]⟩]
theorem aft:AB q10:=oB AP [[]] (by kernel_rfl)
def q11:List Known:=[⟨69,(S 7 0x53545241535345 .nil),(.str ⟨7,0x73747261737365⟩),[]⟩]
theorem afu:AB q11:=oB AP [[]] (by kernel_rfl)
def q12:List Known:=[⟨69,(S 7 0x73747261c39f65 .nil),(.str ⟨7,0x73747261737365⟩),[]⟩]
theorem afv:AB q12:=oB AP [[]] (by kernel_rfl)
def q13:List Known:=[⟨44,(S 3 15707265 .nil),(.fT (S 2 26217 (Q 64 0 2 1 .nil))),[.cells 3 (I .i64 0 (I .i64 0 .nil))]⟩]
theorem afw:AB q13:=oB AP [[1519]] (by kernel_rfl)
def q14:List Known:=[⟨45,(S 8 0x5354524153534578 (S 7 0x73747261c39f65 .nil)),(.fT (I .i64 7 (T .nil))),[]⟩]
theorem afx:AB q14:=oB AP [[]] (by kernel_rfl)
def q15:List Known:=[⟨11,(S 5 418258117444 .nil),(.str ⟨5,280819155812⟩),[]⟩]
theorem afy:AB q15:=oB AP [[]] (by kernel_rfl)
