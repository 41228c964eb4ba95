/- SearchEach, walked: the document's letters, its Fold. -/
import Derived.Test.YtocaiijbhepnnaaGreatDoorFB
import Derived.IntWalk
import Derived.Test.YtocaiijbhepnnaaGreatDoorFA
import Derived.Test.YtocaiijbhepnnaaGreatDoorFC
set_option maxRecDepth 100000
set_option maxHeartbeats 8000000
namespace Go.Proofs.YtocaiijbhepnnaaGreatDoor.searchEach
open Go.Shelf Go.RowKit Go.Lib Go.Proofs.YtocaiijbhepnnaaGreatDoor.Am
theorem Vf (r:Int) (h:∀j,j<17→Cases.gu.getD j 0≠r):Cases.gu.contains r=false:=by rw[Au];intro c;rw[List.contains_iff_mem]at c;obtain⟨j,hj,he⟩:=tH.1 c;exact h j hj (by rw[aM,aY hj];exact he)
def ln (k:Nat):Cases.Line:=Cases.lines.getD k (0,0,0,1)
def aiT (p:Cases.Line):Bool:=decide (0≤p.1)&&decide (p.1≤p.2.1)&&decide (p.2.1≤70000)&&decide (-1000≤p.2.2.1)&&decide (p.2.2.1≤1000)&&decide (0≤p.1+p.2.2.1)&&decide (1≤p.2.2.2)&&decide (p.2.2.2≤2)
theorem QE:((List.range 23).all fun k=>aiT (ln k)&&decide (rM.getD (4*k) 0=(ln k).1)&&decide (rM.getD (4*k+1) 0=(ln k).2.1)&&decide (rM.getD (4*k+2) 0=(ln k).2.2.1)&&decide (rM.getD (4*k+3) 0=(ln k).2.2.2))=true:=by decide+kernel
def acc (r:Int) (k:Nat):Int×Int:=(Cases.lines.take k).foldl (Cases.step r) (r,r)
theorem Y3 (r:Int) {k:Nat} (hk:k<23):acc r (k+1)=Cases.step r (acc r k) (ln k):=by unfold acc ln;rw[List.take_succ_eq_append_getElem (show k<Cases.lines.length from hk),List.foldl_append,aM,aY (show k<Cases.lines.length from hk)];rfl
theorem step_eq {r a b d s x1 y1 x2 y2 sm gr:Int} (hr: -2147483648≤r∧r≤2147483647) (q:0≤a∧a≤b∧b≤70000∧-1000≤d∧d≤1000∧0≤a+d∧1≤s∧s≤2)
 (hx1:wrap32 (r-a)=x1) (hy1:Int.tmod x1 s=y1) (hx2:wrap32 (x1-d)=x2) (hy2:Int.tmod x2 s=y2):
 (Cases.step r (sm,gr) (a,b,d,s)).1=(if(decide (a≤r)&&decide (r≤b)&&decide (y1=0))=true then wrap32 (r+d)else sm)∧
 (Cases.step r (sm,gr) (a,b,d,s)).2=(if(decide (a+d≤r)&&decide (r≤b+d)&&decide (y2=0))=true then wrap32 (r-d)else gr):=by
 have h1:Cases.ow r (a,b,d,s)=(decide (a≤r)&&decide (r≤b)&&decide (y1=0)):=by
  unfold Cases.ow;dsimp only;by_cases c:a≤r∧r≤b
  ·have e:wrap32 (r-a)=r-a:=by unfold wrap32;omega
   rw[←hy1,←hx1,e]
  ·rw[←hy1];by_cases c1:a≤r
   ·rw[aX (show ¬r≤b from fun h=>c ⟨c1,h⟩)];simp
   ·rw[aX c1];simp
 have h2:Cases.isSmall r (a,b,d,s)=(decide (a+d≤r)&&decide (r≤b+d)&&decide (y2=0)):=by
  unfold Cases.isSmall;dsimp only;by_cases c:a+d≤r∧r≤b+d
  ·have e:wrap32 (r-a)=r-a:=by unfold wrap32;omega
   have e2:wrap32 (r-a-d)=r-a-d:=by unfold wrap32;omega
   rw[←hy2,←hx2,←hx1,e,e2]
  ·by_cases c1:a+d≤r
   ·rw[aX (show ¬r≤b+d from fun h=>c ⟨c1,h⟩)];simp
   ·rw[aX c1];simp
 unfold Cases.step;rw[←h1,←h2];dsimp only;constructor
 ·cases c:Cases.ow r (a,b,d,s)with
  |false=>rfl
  |true=>rw[ak rfl,ak rfl];unfold Cases.ow at c;simp only[aP,bI]at c;unfold wrap32;omega
 ·cases c:Cases.isSmall r (a,b,d,s)with
  |false=>rfl
  |true=>rw[ak rfl,ak rfl];unfold Cases.isSmall at c;simp only[aP,bI]at c;unfold wrap32;omega
def Vg (r:Int) (W:World) (e:Ending) (w':World):Prop:=e= .returned (.tuple #[.int .i32 (Cases.mV r).1, .int .i32 (Cases.mV r).2])∧Below W.heap.size W w'
theorem Y4 (r:Int) (hr: -2147483648≤r∧r≤2147483647) (v:Value) (W:World) (h:F9 W v):Calls Tryz.prog 111 #[v, .int .i32 r] W (Vg r W):=by
 obtain⟨B,o,BP,oP,cP,BS,oS,cS,rfl,c0,c1,l1,l2,hP,hS⟩:=h;have hB:=dK c0;have hBP:=dK (hP 0 (by omega));have HP:=ah hP;have HR:=ah hr;have HB:=ah hB;have HBP:=ah hBP;have C0:=ah c0;clear hP hS c1 hr hB hBP;go_enter Tryz.func111,Tryz.ntmps111;go_wp2;go_loopw [6,7,8] (fun sm gr i wr=>∃k:Nat,k≤23∧i= .int .i64 k∧sm= .int .i32 (acc r k).1∧gr= .int .i32 (acc r k).2∧Below W.heap.size W wr) (fun _ _ i _=>23-(RowKit.intOf i).toNat);case atStart=>exact⟨0,by omega,rfl,rfl,rfl,aF _ _⟩
 case round=>
  obtain⟨k,hk,rfl,rfl,rfl,hbel⟩:=hrel;have d0:wr.cell? ⟨B,o,none⟩=some (.slice (some ⟨BP,oP,none⟩) 23 cP):=by rw[hbel.cell HB.out];exact C0.out
  have zn:=ah hbel;clear hbel c0;by_cases hlt:k<23
  ·have hall:=fU.1 QE k (lF.2 hlt);simp only[aP,bI,aiT]at hall;obtain⟨⟨⟨⟨⟨⟨⟨⟨⟨⟨⟨q1,q2⟩,q3⟩,q4⟩,q5⟩,q6⟩,q7⟩,q8⟩,e0⟩,e1⟩,e2⟩,e3⟩:=hall;have f0:=HP.out (4*k) (by omega);have f1:=HP.out (4*k+1) (by omega);have f2:=HP.out (4*k+2) (by omega);have f3:=HP.out (4*k+3) (by omega);rw[e0]at f0;rw[e1]at f1;rw[e2]at f2;rw[e3]at f3;rw[jT 4 k]at f0 f1 f2 f3;have g0:wr.cell? ⟨BP,oP+k*4,none⟩=some (.int .i32 (ln k).1):=by rw[zn.out.cell HBP.out];exact f0
   have g1:wr.cell? ⟨BP,oP+k*4+1,none⟩=some (.int .i32 (ln k).2.1):=by rw[zn.out.cell HBP.out];exact f1
   have g2:wr.cell? ⟨BP,oP+k*4+2,none⟩=some (.int .i32 (ln k).2.2.1):=by rw[zn.out.cell HBP.out];exact f2
   have g3:wr.cell? ⟨BP,oP+k*4+3,none⟩=some (.int .i32 (ln k).2.2.2):=by rw[zn.out.cell HBP.out];exact f3
   have HA:=ah (Y3 r hlt);clear e0 e1 e2 e3 f0 f1 f2 f3;obtain⟨p,hp⟩:∃p,ln k=p:=⟨_,rfl⟩
   rw[hp]at q1 q2 q3 q4 q5 q6 q7 q8 g0 g1 g2 g3 HA;clear hp;obtain⟨a,b,d,s⟩:=p;dsimp only at q1 q2 q3 q4 q5 q6 q7 q8 g0 g1 g2 g3;obtain⟨sg,hsg⟩:∃sg,acc r k=sg:=⟨_,rfl⟩
   rw[hsg]at HA;rw[hsg];clear hsg;obtain⟨sm,gr⟩:=sg;dsimp only;have hs:s≠0:=by omega
   obtain⟨x1,hx1⟩:∃x,wrap32 (r-a)=x:=⟨_,rfl⟩
   obtain⟨y1,hy1⟩:∃y,Int.tmod x1 s=y:=⟨_,rfl⟩
   have w1:wrap32 (a+d)=a+d:=by unfold wrap32;omega
   have w2:wrap32 (b+d)=b+d:=by unfold wrap32;omega
   obtain⟨x2,hx2⟩:∃x,wrap32 (x1-d)=x:=⟨_,rfl⟩
   obtain⟨y2,hy2⟩:∃y,Int.tmod x2 s=y:=⟨_,rfl⟩
   obtain⟨t1,ht1⟩:∃t,decide (a≤r)=t:=⟨_,rfl⟩
   obtain⟨t2,ht2⟩:∃t,decide (r≤b)=t:=⟨_,rfl⟩
   obtain⟨t3,ht3⟩:∃t,decide (y1=0)=t:=⟨_,rfl⟩
   obtain⟨t4,ht4⟩:∃t,decide (a+d≤r)=t:=⟨_,rfl⟩
   obtain⟨t5,ht5⟩:∃t,decide (r≤b+d)=t:=⟨_,rfl⟩
   obtain⟨t6,ht6⟩:∃t,decide (y2=0)=t:=⟨_,rfl⟩
   obtain⟨s1,s2⟩:=step_eq (sm:=sm) (gr:=gr) HR.out ⟨q1,q2,q3,q4,q5,q6,q7,q8⟩ hx1 hy1 hx2 hy2;rw[ht1,ht2,ht3]at s1;rw[ht4,ht5,ht6]at s2;have S1:=ah s1;have S2:=ah s2;clear s1 s2;clear q1 q2 q3 q4 q5 q6 q7 q8;have T1:t1=false∨(t1=true∧t2=false)∨(t1=true∧t2=true∧t3=false)∨(t1=true∧t2=true∧t3=true):=by cases t1<;>cases t2<;>cases t3<;>simp
   have T2:t4=false∨(t4=true∧t5=false)∨(t4=true∧t5=true∧t6=false)∨(t4=true∧t5=true∧t6=true):=by cases t4<;>cases t5<;>cases t6<;>simp
   rcases T1 with rfl|⟨rfl,rfl⟩|⟨rfl,rfl,rfl⟩|⟨rfl,rfl,rfl⟩<;>rcases T2 with rfl|⟨rfl,rfl⟩|⟨rfl,rfl,rfl⟩|⟨rfl,rfl,rfl⟩
   all_goals
    try have n3:=of_decide_eq_false ht3
    try have n6:=of_decide_eq_false ht6
    try have m3:=iV ht3
    try have m6:=iV ht6
    go_wp2;refine⟨⟨k+1,hlt,by go_num,?_,?_,zn.out.alloc zn.out.size _⟩,by simp[RowKit.intOf];omega⟩;·rw[HA.out,S1.out];rfl
    ·rw[HA.out,S2.out];rfl
  ·obtain rfl:k=23:=by omega
   go_wp2;go_ret2;exact⟨rfl,zn.out⟩
theorem Lb {w w':World} {v:Value} (h:F9 w v) (hb:Below w.heap.size w w'):F9 w' v:=by obtain⟨B,o,BP,oP,cP,BS,oS,cS,rfl,c0,c1,l1,l2,hP,hS⟩:=h;have hB:=dK c0;have hBP:=dK (hP 0 (by omega));have hBS:=dK (hS 0 (by omega)).1;refine⟨B,o,BP,oP,cP,BS,oS,cS,rfl,by rw[hb.cell hB];exact c0,by rw[hb.cell hB];exact c1,l1,l2,fun i hi=>by rw[hb.cell hBP];exact hP i hi,fun j hj=>⟨by rw[hb.cell hBS];exact(hS j hj).1,?_⟩⟩;obtain⟨p,n,c,h⟩:=(hS j hj).2;exact⟨p,n,c,by rw[hb.cell hBS];exact h⟩
theorem SV (p:Option Addr) (n c:Nat) (w:World):(binOp .neq 102 (.slice p n c) (.slice none 0 0)).run Tryz.prog w= .ok (.bool p.isSome) w:=by cases p<;>rfl
theorem GK:((List.range 17).all fun k=>decide (formsOf (Cases.gu.getD k 0)=some ((formsT.map (·.2)).getD k [])))=true:=by decide+kernel
theorem QF {k:Nat} (hk:k<17):formsOf (Cases.gu.getD k 0)=some ((formsT.map (·.2)).getD k []):=iV (fU.1 GK k (lF.2 hk))
theorem Y5 (r:Int) (h:∀j,j<17→Cases.gu.getD j 0≠r):formsOf r=none:=by
 have h1:=Vf r h;rw[←formsOf_iff]at h1;cases hf:formsOf r with
 |none=>rfl
 |some fs=>rw[hf]at h1;cases h1
theorem Dw {w w':World} {v:Value} (h:Dm w v) (hb:Below w.heap.size w w'):Dm w' v:=by obtain⟨h1,B,o,BS,oS,cS,rfl,c1,hS⟩:=h;refine⟨Lb h1 hb,B,o,BS,oS,cS,rfl,by rw[hb.cell (dK c1)];exact c1,fun j hj=> ?_⟩;obtain⟨u,h2,h3⟩:=hS j hj;exact⟨u,by rw[hb.cell (dK h2)];exact h2,fourIs_below h3 hb⟩
def Vh (r:Int) (w:World) (e:Ending) (w':World):Prop:=(∃p n c,e= .returned (.slice p n c)∧p.isSome=(formsOf r).isSome∧∀fs,formsOf r=some fs→Gb w (.slice p n c) fs)∧w'=w
theorem NQ (r:Int) (v:Value) (w:World) (h:Dm w v):Calls Tryz.prog 112 #[v, .int .i32 r] w (Vh r w):=by
 obtain⟨⟨B,o,BP,oP,cP,BS,oS,cS,rfl,c0,c1,l1,l2,hP,hS⟩,B',o',BS',oS',cS',hv,c1',hF⟩:=h;injection hv with hv;injection hv with hv;injection hv with hv1 hv2;subst hv1 hv2;rw[c1]at c1';injection c1' with c1';injection c1' with e1 e2 e3;injection e1 with e1;injection e1 with e4 e5;subst e4 e5;have HS:=ah hS;have HF:=ah hF;clear hS hP c0 hF e2 e3;go_enter Tryz.func112,Tryz.ntmps112;go_wp2;go_loop [5] (fun i=>∃k:Nat,k≤17∧i= .int .i64 k∧∀j,j<k→Cases.gu.getD j 0≠r) (fun i=>17-(RowKit.intOf i).toNat);case atStart=>exact⟨0,by omega,rfl,fun j hj=>by omega⟩
 case round=>
  obtain⟨k,hk,rfl,hlo⟩:=hrel;have zo:=ah hlo;clear hlo;by_cases hlt:k<17
  ·obtain⟨d1,p,n,c,d2⟩:=HS.out k hlt;obtain⟨u,d3,h4⟩:=HF.out k hlt;rw[show oS+(2*k+1)=oS+2*k+1 by omega,d2]at d3;injection d3 with d3;have H4:=ah h4;clear h4;rw[←d3]at H4;clear d3;rw[jT 2 k]at d1 d2;by_cases he:Cases.gu.getD k 0=r
   ·have HE:=ah he;rw[he]at d1;clear he;go_wp2;go_ret;have hf:formsOf r=some ((formsT.map (·.2)).getD k []):=by rw[←HE.out];exact QF hlt
    exact⟨⟨_,_,_,rfl,by rw[hf];rfl,fun fs hfs=>by rw[hf]at hfs;injection hfs with hfs;rw[←hfs];exact H4.out⟩,rfl⟩
   ·obtain⟨x,hx⟩:∃x,Cases.gu.getD k 0=x:=⟨_,rfl⟩
    have HE:=ah he;rw[hx]at d1 he;clear hx;have hd:decide (x=r)=false:=aX he;go_wp2;go_round;case rel=>exact⟨k+1,hlt,by go_num,fun j hj=>by
     rcases aK j k with c|c;·exact zo.out j c
     ·obtain rfl:j=k:=by omega
      exact HE.out⟩
    case measure=>simp[RowKit.intOf];omega
  ·obtain rfl:k=17:=by omega
   go_wp2;go_ret;have hf:=Y5 r zo.out;exact⟨⟨_,_,_,rfl,by rw[hf];rfl,fun fs hfs=>by rw[hf]at hfs;cases hfs⟩,rfl⟩
theorem form2_ok (r:Int) (hr: -2147483648≤r∧r≤2147483647) (k:Nat) (hk:k<4) (v:Value) (W:World) (h:Dm W v):Calls Tryz.prog 67 #[v, .int .i32 r, .int .i64 k] W (AJ (formV r k) W):=by
 obtain⟨B,o,rfl⟩:∃B o,v= .pointer (some ⟨B,o,none⟩):=by obtain⟨_,B,o,_,_,_,rfl,_⟩:=h;exact⟨B,o,rfl⟩
 have ny:=ah (NQ r _ W h)
 have HP:=ah (Y4 r hr _ W h.1)
 clear h
 cases hf:formsOf r with
 |some fs=>
  have HV:=ah (show formV r k=fs.getD k []by unfold formV;rw[hf])
  have HF:=ah hf;clear hf
  go_enter Tryz.func67,Tryz.ntmps67
  go_wp2_with (go_at_call 112
               refine ny.out.mono ?_
               rintro e w2 ⟨⟨p,n,c,rfl,hp,h4⟩,rfl⟩
               rw[HF.out]at hp
               have hz:=fun w=>SV p n c w
               rw[hp]at hz
               obtain⟨g,o4,c4,h41,h42,h43⟩:=h4 _ HF.out
               injection h41 with e1 e2 e3
               subst e1 e2 e3
               obtain⟨s4,c4',hs4⟩:=h43 k hk
               have HS4:=ah hs4
               clear hs4 h43 hp)
  go_ret
  exact⟨_,rfl,by rw[HV.out];exact HS4.out,aF _ _⟩
 |none=>
  have HV:=ah (show formV r k=if k=0∨k=3 then[(Cases.mV r).1]else[(Cases.mV r).2]by unfold formV;rw[hf,Cases.Yi])
  have HF:=ah hf;clear hf
  obtain⟨x,hx⟩:∃x,(Cases.mV r).1=x:=⟨_,rfl⟩
  obtain⟨y,hy⟩:∃y,(Cases.mV r).2=y:=⟨_,rfl⟩
  have HX:=ah hx;have HY:=ah hy;clear hx hy
  rw[HX.out,HY.out]at HV
  rw[HV.out]
  obtain rfl|rfl|rfl|rfl:k=0∨k=1∨k=2∨k=3:=by omega
  all_goals
   go_enter Tryz.func67,Tryz.ntmps67
   go_wp2_with (first
    |(go_at_call 112
      refine ny.out.mono ?_
      rintro e w2 ⟨⟨p,n,c,rfl,hp,h4⟩,rfl⟩
      rw[HF.out]at hp
      have hz:=fun w=>SV p n c w
      rw[hp]at hz
      clear h4 hp)
    |(go_at_call 111
      refine HP.out.mono ?_
      rintro e w3 ⟨rfl,hb⟩
      rw[HX.out,HY.out]
      have HB:=ah hb;clear hb))
   go_ret
   exact⟨_,rfl,Jf _ _ _ rfl,HB.out.alloc HB.out.size _⟩
section
open Folds (dec aZ bV)
open tX (bt rR nM)
theorem lQ (r:Int) (w:World):Calls Tryz.prog 163 #[.int .i32 r] w fun e w'=>e= .returned (.bool (uO r))∧w'=w:=by
 unfold uO;by_cases h1:0≤r
 ·by_cases h2:r≤1114111
  ·by_cases h3:r<55296
   ·go_enter Tryz.func163,Tryz.ntmps163;go_wp2;go_ret;exact⟨by simp;try omega,rfl⟩
   ·by_cases h4:57343<r
    ·go_enter Tryz.func163,Tryz.ntmps163;go_wp2;go_ret;exact⟨by simp;try omega,rfl⟩
    ·go_enter Tryz.func163,Tryz.ntmps163;go_wp2;go_ret;exact⟨by simp;try omega,rfl⟩
  ·go_enter Tryz.func163,Tryz.ntmps163;go_wp2;go_ret;exact⟨by simp;try omega,rfl⟩
 ·go_enter Tryz.func163,Tryz.ntmps163;go_wp2;go_ret;exact⟨by simp;try omega,rfl⟩
def kR (r:Int):Nat:=if uO r=true then(if r<128 then 1 else if r<2048 then 2 else if r<65536 then 3 else 4)else 0
theorem iP (r:Int) (w:World):Calls Tryz.prog 160 #[.int .i32 r] w fun e w'=>e= .returned (.int .i64 (kR r))∧w'=w:=by
 unfold kR;cases h:uO r with
 |false=>go_enter Tryz.func160,Tryz.ntmps160;go_wp2_with (go_at_call 163;refine(lQ r _).mono ?_;rintro e w1 ⟨rfl,rfl⟩;rw[h]);go_ret;exact⟨rfl,rfl⟩
 |true=>
  rw[ak rfl];by_cases h1:r<128;·rw[ak h1];go_enter Tryz.func160,Tryz.ntmps160;go_wp2_with (go_at_call 163;refine(lQ r _).mono ?_;rintro e w1 ⟨rfl,rfl⟩;rw[h]);go_ret;exact⟨rfl,rfl⟩
  ·rw[aj h1];by_cases h2:r<2048
   ·rw[ak h2];go_enter Tryz.func160,Tryz.ntmps160;go_wp2_with (go_at_call 163;refine(lQ r _).mono ?_;rintro e w1 ⟨rfl,rfl⟩;rw[h]);go_ret;exact⟨rfl,rfl⟩
   ·rw[aj h2];by_cases h3:r<65536
    ·rw[ak h3];go_enter Tryz.func160,Tryz.ntmps160;go_wp2_with (go_at_call 163;refine(lQ r _).mono ?_;rintro e w1 ⟨rfl,rfl⟩;rw[h]);go_ret;exact⟨rfl,rfl⟩
    ·rw[aj h3];go_enter Tryz.func160,Tryz.ntmps160;go_wp2_with (go_at_call 163;refine(lQ r _).mono ?_;rintro e w1 ⟨rfl,rfl⟩;rw[h]);go_ret;exact⟨rfl,rfl⟩
theorem ab9 (r:Int) (_h0:0≤r) (_h1:r≤1114111) (w:World):Calls Tryz.prog 164 #[.int .i32 r, .int .i64 0] w fun e w'=>e= .returned (.int .u8 (128+r%64))∧w'=w:=by go_enter Tryz.func164,Tryz.ntmps164;go_wp2;go_ret;exact⟨by first|rfl|(congr 1;omega),rfl⟩
theorem acd (r:Int) (_h0:0≤r) (_h1:r≤1114111) (w:World):Calls Tryz.prog 164 #[.int .i32 r, .int .i64 6] w fun e w'=>e= .returned (.int .u8 (128+r/64%64))∧w'=w:=by go_enter Tryz.func164,Tryz.ntmps164;go_wp2;go_ret;exact⟨by first|rfl|(congr 1;omega),rfl⟩
theorem Y6 (r:Int) (_h0:0≤r) (_h1:r≤1114111) (w:World):Calls Tryz.prog 164 #[.int .i32 r, .int .i64 12] w fun e w'=>e= .returned (.int .u8 (128+r/4096%64))∧w'=w:=by go_enter Tryz.func164,Tryz.ntmps164;go_wp2;go_ret;exact⟨by first|rfl|(congr 1;omega),rfl⟩
def lT (c:Int):Int×Int:=if c<128 then(1,c)else if 192≤c∧c<224 then(2,c%32)else if 224≤c∧c<240 then(3,c%16)else if 240≤c∧c<248 then(4,c%8)else(0,0)
def NR (c:Int) (w:World) (e:Ending) (w':World):Prop:=e= .returned (.tuple #[.int .i64 (lT c).1, .int .i32 (lT c).2])∧w'=w
theorem qI (c:Int) (h0:0≤c) (h1:c<256) (w:World):Calls Tryz.prog 159 #[.int .u8 c] w (NR c w):=by
 unfold NR lT;by_cases a1:c<128;·rw[ak a1];go_enter Tryz.func159,Tryz.ntmps159;go_wp2;go_ret2;exact⟨rfl,rfl⟩
 ·rw[aj a1];by_cases a2:c<192
  ·rw[aj (by omega),aj (by omega),aj (by omega)];go_enter Tryz.func159,Tryz.ntmps159;go_wp2;go_ret2;exact⟨rfl,rfl⟩
  ·by_cases a3:c<224
   ·rw[ak (by omega)];go_enter Tryz.func159,Tryz.ntmps159;go_wp2;go_ret2;exact⟨rfl,rfl⟩
   ·rw[aj (by omega)];by_cases a4:c<240
    ·rw[ak (by omega)];go_enter Tryz.func159,Tryz.ntmps159;go_wp2;go_ret2;exact⟨rfl,rfl⟩
    ·rw[aj (by omega)];by_cases a5:c<248
     ·rw[ak (by omega)];go_enter Tryz.func159,Tryz.ntmps159;go_wp2;go_ret2;exact⟨rfl,rfl⟩
     ·rw[aj (by omega)];go_enter Tryz.func159,Tryz.ntmps159;go_wp2;go_ret2;exact⟨rfl,rfl⟩
end
section
open tX (bt rR nM)
def QG (r u:Int):Int:=if u=0 then r%64 else if u=6 then r/64%64 else r/4096%64
theorem QH (r u:Int) (hu:u=0∨u=6∨u=12) (h0:0≤r) (h1:r≤1114111) (w:World):Calls Tryz.prog 164 #[.int .i32 r, .int .i64 u] w fun e w'=>e= .returned (.int .u8 (128+QG r u))∧w'=w:=by
 rcases hu with rfl|rfl|rfl;·exact ab9 r h0 h1 w
 ·exact acd r h0 h1 w
 ·exact Y6 r h0 h1 w
theorem Lc (w:World) (ty:TypeId) (xs:List Int) (l:List UInt8) (hl:l.length=xs.length) (hx:∀j,j<xs.length→xs.getD j 0=(bt l j:Int)):
 BR (w.alloc (.cells (xs.map (Value.int .u8)).toArray ty)) (w.heap.size+1) (some ⟨w.heap.size,0,none⟩) xs.length l:=by
 refine⟨hl,fun _=>⟨w.heap.size,0,rfl,kD _,fun j hj=> ?_⟩⟩;rw[bK,bC _ _ _ _ _ _ (dh w _),←hx j hj];simp[hj]
def oz (r:Int) (w:World) (e:Ending) (w':World):Prop:=e= .returned (.string ⟨(encR r).toArray⟩)∧Below w.heap.size w w'
theorem EJ (c:Nat) (h:uO (c:Int)=true):encR (c:Int)=vK c:=by rw[YH _ h,jM]
theorem zM (c:Nat) (h:uO (c:Int)=true) (hc:c<128) (w:World):Calls Tryz.prog 113 #[.int .i32 (c:Int)] w (oz c w):=by
 have hw:kR (c:Int)=1:=by unfold kR;rw[ak h,ak (by omega)]
 have hcv:=fun k=>xH (Lc w 5 [(c:Int)] (vK c) (by unfold vK;rw[ak hc];rfl) (fun j hj=>by
  unfold vK;rw[ak hc];match j,hj with
  |0,_=>show(c:Int)=((UInt8.ofNat c).toNat:Int);rw[ofNat_lt c (by omega)])) k
 rw[show[(c:Int)].map (Value.int .u8)=[.int .u8 (c:Int)]from rfl,show[(c:Int)].length=1 from rfl]at hcv;unfold oz;rw[EJ c h];have H:=ah h;have HW:=ah hw;clear h hw;go_enter Tryz.func113,Tryz.ntmps113;go_wp2_with (first
  |(go_at_call 163;refine(lQ _ _).mono ?_;rintro e w1 ⟨rfl,rfl⟩;rw[H.out])
  |(go_at_call 160;refine(iP _ _).mono ?_;rintro e w1 ⟨rfl,rfl⟩;rw[HW.out]))
 go_ret;exact⟨rfl,(aF _ _).alloc (ay _) _⟩
theorem ace (c:Nat) (h:uO (c:Int)=true) (hc:¬c<128) (hd:c<2048) (w:World):Calls Tryz.prog 113 #[.int .i32 (c:Int)] w (oz c w):=by
 have hw:kR (c:Int)=2:=by unfold kR;rw[ak h,aj (by omega),ak (by omega)]
 have hcv:=fun k=>xH (Lc w 5 [192+(c:Int)/64,128+(c:Int)%64] (vK c) (by unfold vK;rw[aj hc,ak hd];rfl) (fun j hj=>by
  unfold vK;rw[aj hc,ak hd];match j,hj with
  |0,_=>show 192+(c:Int)/64=((UInt8.ofNat (192+c/64)).toNat:Int);rw[ofNat_lt _ (by omega)];omega
  |1,_=>show 128+(c:Int)%64=((UInt8.ofNat (128+c%64)).toNat:Int);rw[ofNat_lt _ (by omega)];omega)) k
 rw[show[192+(c:Int)/64,128+(c:Int)%64].map (Value.int .u8)=[.int .u8 (192+(c:Int)/64), .int .u8 (128+(c:Int)%64)]from rfl,show[192+(c:Int)/64,128+(c:Int)%64].length=2 from rfl]at hcv;unfold oz;rw[EJ c h];have H:=ah h;have HW:=ah hw;clear h hw;go_enter Tryz.func113,Tryz.ntmps113;go_wp2_with (first
  |(go_at_call 163;refine(lQ _ _).mono ?_;rintro e w1 ⟨rfl,rfl⟩;rw[H.out])
  |(go_at_call 160;refine(iP _ _).mono ?_;rintro e w1 ⟨rfl,rfl⟩;rw[HW.out])
  |(go_at_call 164;refine(QH _ _ (by decide) (by omega) (by omega) _).mono ?_;rintro e w1 ⟨rfl,rfl⟩;rw[show QG (c:Int) 0=(c:Int)%64 from rfl]))
 go_ret;exact⟨rfl,(aF _ _).alloc (ay _) _⟩
theorem acf (c:Nat) (h:uO (c:Int)=true) (hc:¬c<2048) (hd:c<65536) (w:World):Calls Tryz.prog 113 #[.int .i32 (c:Int)] w (oz c w):=by
 have hw:kR (c:Int)=3:=by unfold kR;rw[ak h,aj (by omega),aj (by omega),ak (by omega)]
 have hcv:=fun k=>xH (Lc w 5 [224+(c:Int)/4096,128+(c:Int)/64%64,128+(c:Int)%64] (vK c) (by unfold vK;rw[aj (by omega),aj (by omega),ak hd];rfl) (fun j hj=>by
  unfold vK;rw[aj (by omega),aj (by omega),ak hd];match j,hj with
  |0,_=>show 224+(c:Int)/4096=((UInt8.ofNat (224+c/4096)).toNat:Int);rw[ofNat_lt _ (by omega)];omega
  |1,_=>show 128+(c:Int)/64%64=((UInt8.ofNat (128+c/64%64)).toNat:Int);rw[ofNat_lt _ (by omega)];omega
  |2,_=>show 128+(c:Int)%64=((UInt8.ofNat (128+c%64)).toNat:Int);rw[ofNat_lt _ (by omega)];omega)) k
 rw[show[224+(c:Int)/4096,128+(c:Int)/64%64,128+(c:Int)%64].map (Value.int .u8)=[.int .u8 (224+(c:Int)/4096), .int .u8 (128+(c:Int)/64%64), .int .u8 (128+(c:Int)%64)]from rfl,show[224+(c:Int)/4096,128+(c:Int)/64%64,128+(c:Int)%64].length=3 from rfl]at hcv;unfold oz;rw[EJ c h];have H:=ah h;have HW:=ah hw;clear h hw;go_enter Tryz.func113,Tryz.ntmps113;go_wp2_with (first
  |(go_at_call 163;refine(lQ _ _).mono ?_;rintro e w1 ⟨rfl,rfl⟩;rw[H.out])
  |(go_at_call 160;refine(iP _ _).mono ?_;rintro e w1 ⟨rfl,rfl⟩;rw[HW.out])
  |(go_at_call 164;refine(QH _ _ (by decide) (by omega) (by omega) _).mono ?_;rintro e w1 ⟨rfl,rfl⟩;first|rw[show QG (c:Int) 0=(c:Int)%64 from rfl]|rw[show QG (c:Int) 6=(c:Int)/64%64 from rfl]))
 go_ret;exact⟨rfl,(aF _ _).alloc (ay _) _⟩
theorem acg (c:Nat) (h:uO (c:Int)=true) (hc:¬c<65536) (w:World):Calls Tryz.prog 113 #[.int .i32 (c:Int)] w (oz c w):=by
 have hR:=(jZ _).1 h;have hw:kR (c:Int)=4:=by unfold kR;rw[ak h,aj (by omega),aj (by omega),aj (by omega)]
 have hcv:=fun k=>xH (Lc w 5 [240+(c:Int)/262144,128+(c:Int)/4096%64,128+(c:Int)/64%64,128+(c:Int)%64] (vK c) (by unfold vK;rw[aj (by omega),aj (by omega),aj hc];rfl) (fun j hj=>by
  unfold vK;rw[aj (by omega),aj (by omega),aj hc];match j,hj with
  |0,_=>show 240+(c:Int)/262144=((UInt8.ofNat (240+c/262144)).toNat:Int);rw[ofNat_lt _ (by omega)];omega
  |1,_=>show 128+(c:Int)/4096%64=((UInt8.ofNat (128+c/4096%64)).toNat:Int);rw[ofNat_lt _ (by omega)];omega
  |2,_=>show 128+(c:Int)/64%64=((UInt8.ofNat (128+c/64%64)).toNat:Int);rw[ofNat_lt _ (by omega)];omega
  |3,_=>show 128+(c:Int)%64=((UInt8.ofNat (128+c%64)).toNat:Int);rw[ofNat_lt _ (by omega)];omega)) k
 rw[show[240+(c:Int)/262144,128+(c:Int)/4096%64,128+(c:Int)/64%64,128+(c:Int)%64].map (Value.int .u8)=[.int .u8 (240+(c:Int)/262144), .int .u8 (128+(c:Int)/4096%64), .int .u8 (128+(c:Int)/64%64), .int .u8 (128+(c:Int)%64)]from rfl,show[240+(c:Int)/262144,128+(c:Int)/4096%64,128+(c:Int)/64%64,128+(c:Int)%64].length=4 from rfl]at hcv;unfold oz;rw[EJ c h];have H:=ah h;have HW:=ah hw;clear h hw;obtain⟨_,hc2,_⟩:=hR;go_enter Tryz.func113,Tryz.ntmps113;go_wp2_with (first
  |(go_at_call 163;refine(lQ _ _).mono ?_;rintro e w1 ⟨rfl,rfl⟩;rw[H.out])
  |(go_at_call 160;refine(iP _ _).mono ?_;rintro e w1 ⟨rfl,rfl⟩;rw[HW.out])
  |(go_at_call 164;refine(QH _ _ (by decide) (by omega) (by omega) _).mono ?_;rintro e w1 ⟨rfl,rfl⟩;first|rw[show QG (c:Int) 0=(c:Int)%64 from rfl]|rw[show QG (c:Int) 6=(c:Int)/64%64 from rfl]|rw[show QG (c:Int) 12=(c:Int)/4096%64 from rfl]))
 go_ret;exact⟨rfl,(aF _ _).alloc (ay _) _⟩
theorem QI (r:Int) (h:uO r=true) (w:World):Calls Tryz.prog 113 #[.int .i32 r] w (oz r w):=by
 obtain⟨c,rfl⟩:=Ez ((jZ _).1 h).1;by_cases h1:c<128;·exact zM c h h1 w
 ·by_cases h2:c<2048
  ·exact ace c h h1 h2 w
  ·by_cases h3:c<65536
   ·exact acf c h h2 h3 w
   ·exact acg c h h3 w
theorem Y7 (l:List Int) (v:Value) (W:World) (h:gU W v l) (hl:l.length≤100) (hv:∀x∈l,uO x=true):Calls Tryz.prog 66 #[v] W (Nj l W):=by
 obtain⟨A,c,rfl,hc,hcell⟩:=h;obtain⟨n,hn⟩:∃n,l.length=n:=⟨_,rfl⟩
 have HC:=ah hcell;have HN:=ah hn;have HV:=ah hv;clear hcell hv;rw[hn]at hl hc⊢;clear hn;obtain⟨i0,hi0,hz0,hz1,hz2⟩:=dY Cq;go_enter Tryz.func66,Tryz.ntmps66;go_wp2;go_loopw [3,4] (fun vb i wr=>∃k:Nat,k≤n∧i= .int .i64 k∧TxL W l k vb wr) (fun _ i _=>n-(RowKit.intOf i).toNat);case atStart=>exact⟨0,aH _,rfl,aF _ _,⟨rfl, .inl ⟨rfl,rfl⟩⟩⟩
 case round=>
  obtain⟨k,hk,rfl,hE⟩:=hrel;have HE:=ah hE;clear hE;obtain⟨A1,c1,rfl,_⟩:=kI HE.out.own;by_cases hlt:k<n
  ·obtain⟨g,o,rfl,hg⟩:=HC.out (by rw[HN.out];omega);have d0:=hg k (by rw[HN.out];exact hlt);have hgs:=dK d0;rw[←HE.out.aB.cell (p:=⟨g,o+k,none⟩) hgs]at d0;clear hg hgs;have hrv:uO (l.getD k 0)=true:=HV.out _ (by
    rw[aM,aY (by rw[HN.out];exact hlt)];exact mG _)
   obtain⟨r,hr⟩:∃r,l.getD k 0=r:=⟨_,rfl⟩
   rw[hr]at d0 hrv;have HRV:=ah hrv;have HT:=ah (Je l (k:=k) (by rw[HN.out];exact hlt));have HR:=ah hr;clear hr hrv;have hlen:=vH (l.take k);rw[gH]at hlen;have hlr:=Gi r;have HL:=ah (And.intro hlen hlr);clear hlen hlr;go_wp2_with (first
    |(go_at_call 113;refine(QI r HRV.out _).mono ?_;rintro e w1 ⟨rfl,hb1⟩;have HB1:=ah hb1;clear hb1;have HO1:=ah (own_below HB1.out HE.out.own))
    |(at_builtin
      (refine vG _ rfl (.tmp 11) (.tmp 16) 65 9 5 rfl Tryz.underlying65 Tryz.underlying9 W.heap.size i0 hi0 hz0 hz1 hz2 _ _ _ rfl HO1.out (encR r) _ rfl rfl ?_ ?_ ?_);·have:=HL.out;have:=HN.out;omega
      ·exact aQ HE.out.aB.size HB1.out.size
      intro v' w2 hown2 hgrow2 afp;obtain⟨A2,c2,rfl,_⟩:=kI hown2;have HO2:=ah hown2;have HG2:=ah hgrow2;clear hown2 hgrow2 afp))
   go_roundw;case rel=>
    refine⟨k+1,hlt,by go_num,?_,?_⟩;·exact(HE.out.aB.trans (HB1.out.mono HE.out.aB.size)).grown HG2.out (aQ HE.out.aB.size HB1.out.size) (fun g hg=>(bD HO1.out hg).1)
    ·have:=HO2.out;rw[←Gh,←HR.out]at this;rw[←HR.out,HT.out,bf];exact this
   case measure=>simp[RowKit.intOf];omega
  ·obtain rfl:k=n:=by omega
   have htk:l.take k=l:=mH (by rw[HN.out];exact ay _);obtain⟨hl2,A2,c2,he,hbr,_⟩:=BR.Yv HE.out.own;injection he with e1 e2 e3;subst e1;have Yw:=fun c=>xH hbr c;rw[htk]at Yw;have BG:=ah htk;clear htk hbr;rw[BG.out];go_wp2;go_ret;exact⟨rfl,HE.out.aB⟩
end
section
open Folds (dec aZ bV)
open tX (bt rR nM)
theorem Y8:((List.range 256).all fun b=>(bits BinOp.and IntKind.u8 (b:Int) 192 !=128)==decide (b/64≠2))=true:=by decide+kernel
theorem oJ {b:Nat} (h:b<256):(bits BinOp.and IntKind.u8 (b:Int) 192 !=128)=decide (b/64≠2):=by have:=fU.1 Y8 b (lF.2 h);exact eq_of_beq this
theorem byte_at (s:ByteArray) (l:List UInt8) (hs:(⟨l.toArray⟩:ByteArray)=s) (i:Nat) (h:i<s.size):(s[i]'h).toNat=bt l i:=by
 subst hs;have h':i<l.length:=by simpa[ByteArray.size]using h
 show((⟨l.toArray⟩:ByteArray).data[i]'(by simpa using h')).toNat=_;unfold bt;rw[aM,aY h'];simp
def lU (n b0 b1 b2 b3:Nat) (w:World) (e:Ending) (w':World):Prop:=e= .returned (.tuple #[.int .i32 (decodeN n b0 b1 b2 b3).1, .int .i64 (decodeN n b0 b1 b2 b3).2])∧w'=w
theorem cO {n b0 b1 b2 b3 r k:Nat} {w:World} (h:decodeN n b0 b1 b2 b3=(r,k)) {v:Value} (hv:v= .tuple #[.int .i32 (r:Nat), .int .i64 (k:Nat)]):lU n b0 b1 b2 b3 w (.returned v) w:=by subst hv;unfold lU;rw[h];exact⟨rfl,rfl⟩
theorem fault0 (n b0 b1 b2 b3:Nat) (h:(128≤b0∧b0<192)∨(248≤b0∧b0<256)):decodeN n b0 b1 b2 b3=(65533,1):=by unfold decodeN;rw[aj (by omega),aj (by omega),aj (by omega),aj (by omega)]
theorem fault2 (n b0 b1 b2 b3:Nat) (h:192≤b0∧b0<224) (h2:n<2∨b1/64≠2∨b0%32*64+b1%64<128):decodeN n b0 b1 b2 b3=(65533,1):=by
 unfold decodeN;rw[aj (by omega)];by_cases c:b0/32=6∧(1<n∧b1/64=2)
 ·rw[ak c,aj (by omega)]
 ·rw[aj c,aj (by omega),aj (by omega)]
theorem aiU (n b0 b1 b2 b3:Nat) (h:192≤b0∧b0<224) (h2:2≤n∧b1/64=2∧128≤b0%32*64+b1%64):decodeN n b0 b1 b2 b3=(b0%32*64+b1%64,2):=by unfold decodeN;rw[aj (by omega),ak (by omega),ak (by omega)]
theorem fault3 (n b0 b1 b2 b3:Nat) (h:224≤b0∧b0<240) (h2:n<3∨b1/64≠2∨b2/64≠2∨¬(b0%16*4096+b1%64*64+b2%64≥2048∧(b0%16*4096+b1%64*64+b2%64<55296∨57344≤b0%16*4096+b1%64*64+b2%64))):decodeN n b0 b1 b2 b3=(65533,1):=by
 unfold decodeN;rw[aj (by omega),aj (by omega)];by_cases c:b0/16=14∧(1<n∧b1/64=2)∧(2<n∧b2/64=2)
 ·rw[ak c,aj (by omega)]
 ·rw[aj c,aj (by omega)]
theorem aiV (n b0 b1 b2 b3:Nat) (h:224≤b0∧b0<240) (h2:3≤n∧b1/64=2∧b2/64=2∧(b0%16*4096+b1%64*64+b2%64≥2048∧(b0%16*4096+b1%64*64+b2%64<55296∨57344≤b0%16*4096+b1%64*64+b2%64))):decodeN n b0 b1 b2 b3=(b0%16*4096+b1%64*64+b2%64,3):=by unfold decodeN;rw[aj (by omega),aj (by omega),ak (by omega),ak (by omega)]
theorem fault4 (n b0 b1 b2 b3:Nat) (h:240≤b0∧b0<248) (h2:n<4∨b1/64≠2∨b2/64≠2∨b3/64≠2∨¬(b0%8*262144+b1%64*4096+b2%64*64+b3%64≥65536∧b0%8*262144+b1%64*4096+b2%64*64+b3%64≤1114111)):decodeN n b0 b1 b2 b3=(65533,1):=by
 unfold decodeN;rw[aj (by omega),aj (by omega),aj (by omega)];by_cases c:b0/8=30∧(1<n∧b1/64=2)∧(2<n∧b2/64=2)∧(3<n∧b3/64=2)
 ·rw[ak c,aj (by omega)]
 ·rw[aj c]
theorem aiW (n b0 b1 b2 b3:Nat) (h:240≤b0∧b0<248) (h2:4≤n∧b1/64=2∧b2/64=2∧b3/64=2∧(b0%8*262144+b1%64*4096+b2%64*64+b3%64≥65536∧b0%8*262144+b1%64*4096+b2%64*64+b3%64≤1114111)):decodeN n b0 b1 b2 b3=(b0%8*262144+b1%64*4096+b2%64*64+b3%64,4):=by unfold decodeN;rw[aj (by omega),aj (by omega),aj (by omega),ak (by omega),ak (by omega)]
theorem SX (s:ByteArray) (h:0<s.size) (b0 b1 b2 b3:Nat) (x0:(s[0]'h).toNat=b0) (hb:(128≤b0∧b0<192)∨(248≤b0∧b0<256)) (w:World):Calls Tryz.prog 107 #[.string s] w (lU s.size b0 b1 b2 b3 w):=by
 have HL:=ah (show lT (b0:Int)=(0,0)by unfold lT;rw[aj (by omega),aj (by omega),aj (by omega),aj (by omega)]);have HD:=ah (fault0 s.size b0 b1 b2 b3 hb);have HB:=ah (show b0<256 by omega);clear hb;have hne:((s.size:Int)==0)=false:=by rw[bW];omega
 go_enter Tryz.func107,Tryz.ntmps107;go_wp2_with (go_at_call 159;refine(qI _ (by omega) (by have:=HB.out;omega) _).mono ?_;rintro e w1 ⟨rfl,rfl⟩;rw[HL.out]);go_ret2;exact cO HD.out rfl
theorem ach (s:ByteArray) (h:0<s.size) (b0 b1 b2 b3:Nat) (x0:(s[0]'h).toNat=b0) (hb:b0<128) (w:World):Calls Tryz.prog 107 #[.string s] w (lU s.size b0 b1 b2 b3 w):=by
 have HL:=ah (show lT (b0:Int)=(1,(b0:Int))by unfold lT;rw[ak (by omega)]);have HD:=ah (decodeN_ascii s.size b0 b1 b2 b3 hb);have HB:=ah hb;have HW:=ah (show kR (b0:Int)=1 by unfold kR;rw[ak ((jZ _).2 (by omega)),ak (by omega)]);clear hb;have hne:((s.size:Int)==0)=false:=by rw[bW];omega
 go_enter Tryz.func107,Tryz.ntmps107;go_wp2_with (go_at_call 159;refine(qI _ (by omega) (by have:=HB.out;omega) _).mono ?_;rintro e w1 ⟨rfl,rfl⟩;rw[HL.out]);go_loopw [6,5] (fun vi vr wr=>wr=w1∧vi= .int .i64 1∧vr= .int .i32 (b0:Int)) (fun _ _ _=>0);case atStart=>exact⟨rfl,rfl,rfl⟩
 case round=>obtain⟨rfl,rfl,rfl⟩:=hrel;go_wp2_with (go_at_call 160;refine(iP _ _).mono ?_;rintro e w2 ⟨rfl,rfl⟩;rw[HW.out]);go_ret2;exact cO HD.out rfl
theorem aci (rr:Int) (h0:0≤rr) (h1:rr≤2047) (h:¬(128≤rr)):kR rr≠2:=by
 unfold kR;by_cases c:uO rr=true
 ·have:=(jZ _).1 c;rw[ak c];repeat' split
  all_goals omega
 ·rw[aj c];omega
theorem Y9 (s:ByteArray) (h:0<s.size) (hk:s.size<2) (b0 b1 b2 b3:Nat) (x0:(s[0]'h).toNat=b0) (a0:192≤b0) (a1:b0<224) (w:World):Calls Tryz.prog 107 #[.string s] w (lU s.size b0 b1 b2 b3 w):=by
 have HL:=ah (show lT (b0:Int)=(2,(b0:Int)%32)by unfold lT;rw[aj (by omega),ak (by omega)]);have HD:=ah (fault2 s.size b0 b1 b2 b3 ⟨a0,a1⟩ (.inl hk));have HB:=ah (show b0<256 by omega);clear a0 a1;have hne:((s.size:Int)==0)=false:=by rw[bW];omega
 go_enter Tryz.func107,Tryz.ntmps107;go_wp2_with (go_at_call 159;refine(qI _ (by omega) (by have:=HB.out;omega) _).mono ?_;rintro e w1 ⟨rfl,rfl⟩;rw[HL.out]);go_ret2;exact cO HD.out rfl
theorem acj (s:ByteArray) (hk:2≤s.size) (hz:s.size≤100000) (b0 b1 b2 b3:Nat) (x0:(s[0]'(by omega)).toNat=b0) (x1:(s[1]'(by omega)).toNat=b1) (h1:b1<256) (a0:192≤b0) (a1:b0<224) (w:World):Calls Tryz.prog 107 #[.string s] w (lU s.size b0 b1 b2 b3 w):=by
 have HL:=ah (show lT (b0:Int)=(2,(b0:Int)%32)by unfold lT;rw[aj (by omega),ak (by omega)]);have HF:=ah (fault2 s.size b0 b1 b2 b3 ⟨a0,a1⟩);have HG:=ah (aiU s.size b0 b1 b2 b3 ⟨a0,a1⟩);have HB:=ah (show b0<256 by omega);have HC1:=ah (oJ h1);have hne:((s.size:Int)==0)=false:=by rw[bW];omega
 have hsz:decide ((s.size:Int)<2)=false:=aX (by omega);clear a0 a1;go_enter Tryz.func107,Tryz.ntmps107;go_wp2_with (go_at_call 159;refine(qI _ (by omega) (by have:=HB.out;omega) _).mono ?_;rintro e w1 ⟨rfl,rfl⟩;rw[HL.out]);obtain⟨r0,hr0⟩:∃r0:Int,(b0:Int)%32=r0:=⟨_,rfl⟩
 have q0:0≤r0:=by omega
 have q1:r0<32:=by omega
 rw[hr0];have Vi:=ah hr0;clear hr0;go_loopw [6,5] (fun vi vr wr=>wr=w1∧((vi= .int .i64 1∧vr= .int .i32 r0)∨(vi= .int .i64 2∧vr= .int .i32 (r0*64+(b1:Int)%64)∧b1/64=2))) (fun vi _ _=>(2-RowKit.intOf vi).toNat);case atStart=>exact⟨rfl, .inl ⟨rfl,rfl⟩⟩
 case round=>
  obtain⟨rfl,⟨rfl,rfl⟩|⟨rfl,rfl,k1⟩⟩:=hrel
  ·by_cases c1:b1/64=2
   ·have hc:(bits BinOp.and IntKind.u8 (b1:Int) 192 !=128)=false:=by rw[HC1.out];exact aX (fun h=>h c1)
    have C1:=ah c1;clear c1;go_wp2_with fail;go_roundw;case rel=>exact⟨by first|rfl|trivial, .inr (⟨rfl,rfl,C1.out⟩)⟩
    case measure=>simp[RowKit.intOf]
   ·have hc:(bits BinOp.and IntKind.u8 (b1:Int) 192 !=128)=true:=by rw[HC1.out];exact bB c1
    have C1:=ah c1;clear c1;go_wp2_with fail;go_ret2;exact cO (HF.out (.inr (.inl C1.out))) rfl
  ·have K1:=ah k1;clear k1;obtain⟨rr,hrr⟩:∃rr:Int,(r0*64+(b1:Int)%64)=rr:=⟨_,rfl⟩
   have HRR:=ah hrr;have hfull:rr=((b0%32*64+b1%64:Nat):Int):=by have:=Vi.out;omega
   have hub:0≤rr∧rr≤2047:=by omega
   by_cases cw:128≤rr;·have HW:=ah (show kR rr=2 by unfold kR;rw[ak ((jZ _).2 (by omega)),aj (by omega),ak (by omega)]);have HD:=ah (HG.out ⟨hk,K1.out,by omega⟩);have HFU:=ah hfull;clear hrr hfull cw hub;go_wp2_with (go_at_call 160;refine(iP _ _).mono ?_;rintro e w2 ⟨rfl,rfl⟩;rw[HRR.out,HW.out]);go_ret2;exact cO HD.out (by rw[←HFU.out,←HRR.out];rfl)
   ·have hwne:kR rr≠2:=aci rr hub.1 hub.2 cw;have HD:=ah (HF.out (.inr (.inr (by omega))));obtain⟨ww,Za⟩:∃ww,kR rr=ww:=⟨_,rfl⟩
    rw[Za]at hwne;have HW:=ah Za;have hb:(((ww:Nat):Int) !=2)=true:=by simp;omega
    clear hrr hfull cw hub Za;go_wp2_with (go_at_call 160;refine(iP _ _).mono ?_;rintro e w2 ⟨rfl,rfl⟩;rw[HRR.out,HW.out]);go_ret2;exact cO HD.out rfl
theorem acn (rr:Int) (h0:0≤rr) (h1:rr≤65535) (h:¬(2048≤rr∧(rr<55296∨57343<rr))):kR rr≠3:=by
 unfold kR;by_cases c:uO rr=true
 ·have:=(jZ _).1 c;rw[ak c];repeat' split
  all_goals omega
 ·rw[aj c];omega
theorem Zb (s:ByteArray) (h:0<s.size) (hk:s.size<3) (b0 b1 b2 b3:Nat) (x0:(s[0]'h).toNat=b0) (a0:224≤b0) (a1:b0<240) (w:World):Calls Tryz.prog 107 #[.string s] w (lU s.size b0 b1 b2 b3 w):=by
 have HL:=ah (show lT (b0:Int)=(3,(b0:Int)%16)by unfold lT;rw[aj (by omega),aj (by omega),ak (by omega)]);have HD:=ah (fault3 s.size b0 b1 b2 b3 ⟨a0,a1⟩ (.inl hk));have HB:=ah (show b0<256 by omega);clear a0 a1;have hne:((s.size:Int)==0)=false:=by rw[bW];omega
 go_enter Tryz.func107,Tryz.ntmps107;go_wp2_with (go_at_call 159;refine(qI _ (by omega) (by have:=HB.out;omega) _).mono ?_;rintro e w1 ⟨rfl,rfl⟩;rw[HL.out]);go_ret2;exact cO HD.out rfl
theorem aco (s:ByteArray) (hk:3≤s.size) (hz:s.size≤100000) (b0 b1 b2 b3:Nat) (x0:(s[0]'(by omega)).toNat=b0) (x1:(s[1]'(by omega)).toNat=b1) (x2:(s[2]'(by omega)).toNat=b2) (h1:b1<256) (h2:b2<256) (a0:224≤b0) (a1:b0<240) (w:World):Calls Tryz.prog 107 #[.string s] w (lU s.size b0 b1 b2 b3 w):=by
 have HL:=ah (show lT (b0:Int)=(3,(b0:Int)%16)by unfold lT;rw[aj (by omega),aj (by omega),ak (by omega)]);have HF:=ah (fault3 s.size b0 b1 b2 b3 ⟨a0,a1⟩);have HG:=ah (aiV s.size b0 b1 b2 b3 ⟨a0,a1⟩);have HB:=ah (show b0<256 by omega);have HC1:=ah (oJ h1);have HC2:=ah (oJ h2);have hne:((s.size:Int)==0)=false:=by rw[bW];omega
 have hsz:decide ((s.size:Int)<3)=false:=aX (by omega);clear a0 a1;go_enter Tryz.func107,Tryz.ntmps107;go_wp2_with (go_at_call 159;refine(qI _ (by omega) (by have:=HB.out;omega) _).mono ?_;rintro e w1 ⟨rfl,rfl⟩;rw[HL.out]);obtain⟨r0,hr0⟩:∃r0:Int,(b0:Int)%16=r0:=⟨_,rfl⟩
 have q0:0≤r0:=by omega
 have q1:r0<16:=by omega
 rw[hr0];have Vi:=ah hr0;clear hr0;go_loopw [6,5] (fun vi vr wr=>wr=w1∧((vi= .int .i64 1∧vr= .int .i32 r0)∨(vi= .int .i64 2∧vr= .int .i32 (r0*64+(b1:Int)%64)∧b1/64=2)∨(vi= .int .i64 3∧vr= .int .i32 ((r0*64+(b1:Int)%64)*64+(b2:Int)%64)∧b1/64=2∧b2/64=2))) (fun vi _ _=>(3-RowKit.intOf vi).toNat);case atStart=>exact⟨rfl, .inl ⟨rfl,rfl⟩⟩
 case round=>
  obtain⟨rfl,⟨rfl,rfl⟩|⟨rfl,rfl,k1⟩|⟨rfl,rfl,k1,k2⟩⟩:=hrel
  ·by_cases c1:b1/64=2
   ·have hc:(bits BinOp.and IntKind.u8 (b1:Int) 192 !=128)=false:=by rw[HC1.out];exact aX (fun h=>h c1)
    have C1:=ah c1;clear c1;go_wp2_with fail;go_roundw;case rel=>exact⟨by first|rfl|trivial, .inr (.inl ⟨rfl,rfl,C1.out⟩)⟩
    case measure=>simp[RowKit.intOf]
   ·have hc:(bits BinOp.and IntKind.u8 (b1:Int) 192 !=128)=true:=by rw[HC1.out];exact bB c1
    have C1:=ah c1;clear c1;go_wp2_with fail;go_ret2;exact cO (HF.out (.inr (.inl C1.out))) rfl
  ·have K1:=ah k1;clear k1;by_cases c2:b2/64=2
   ·have hc:(bits BinOp.and IntKind.u8 (b2:Int) 192 !=128)=false:=by rw[HC2.out];exact aX (fun h=>h c2)
    have C2:=ah c2;clear c2;go_wp2_with fail;go_roundw;case rel=>exact⟨by first|rfl|trivial, .inr (.inr (⟨rfl,rfl,K1.out,C2.out⟩))⟩
    case measure=>simp[RowKit.intOf]
   ·have hc:(bits BinOp.and IntKind.u8 (b2:Int) 192 !=128)=true:=by rw[HC2.out];exact bB c2
    have C2:=ah c2;clear c2;go_wp2_with fail;go_ret2;exact cO (HF.out (.inr (.inr (.inl C2.out)))) rfl
  ·have K1:=ah k1;clear k1;have K2:=ah k2;clear k2;obtain⟨rr,hrr⟩:∃rr:Int,((r0*64+(b1:Int)%64)*64+(b2:Int)%64)=rr:=⟨_,rfl⟩
   have HRR:=ah hrr;have hfull:rr=((b0%16*4096+b1%64*64+b2%64:Nat):Int):=by have:=Vi.out;omega
   have hub:0≤rr∧rr≤65535:=by omega
   by_cases cw:2048≤rr∧(rr<55296∨57343<rr)
   ·have HW:=ah (show kR rr=3 by unfold kR;rw[ak ((jZ _).2 (by omega)),aj (by omega),aj (by omega),ak (by omega)]);have HD:=ah (HG.out ⟨hk,K1.out,K2.out,by omega⟩);have HFU:=ah hfull;clear hrr hfull cw hub;go_wp2_with (go_at_call 160;refine(iP _ _).mono ?_;rintro e w2 ⟨rfl,rfl⟩;rw[HRR.out,HW.out]);go_ret2;exact cO HD.out (by rw[←HFU.out,←HRR.out];rfl)
   ·have hwne:kR rr≠3:=acn rr hub.1 hub.2 cw;have HD:=ah (HF.out (.inr (.inr (.inr (by omega)))));obtain⟨ww,Za⟩:∃ww,kR rr=ww:=⟨_,rfl⟩
    rw[Za]at hwne;have HW:=ah Za;have hb:(((ww:Nat):Int) !=3)=true:=by simp;omega
    clear hrr hfull cw hub Za;go_wp2_with (go_at_call 160;refine(iP _ _).mono ?_;rintro e w2 ⟨rfl,rfl⟩;rw[HRR.out,HW.out]);go_ret2;exact cO HD.out rfl
theorem acp (rr:Int) (h0:0≤rr) (h1:rr≤2097151) (h:¬(65536≤rr∧rr≤1114111)):kR rr≠4:=by
 unfold kR;by_cases c:uO rr=true
 ·have:=(jZ _).1 c;rw[ak c];repeat' split
  all_goals omega
 ·rw[aj c];omega
theorem Zc (s:ByteArray) (h:0<s.size) (hk:s.size<4) (b0 b1 b2 b3:Nat) (x0:(s[0]'h).toNat=b0) (a0:240≤b0) (a1:b0<248) (w:World):Calls Tryz.prog 107 #[.string s] w (lU s.size b0 b1 b2 b3 w):=by
 have HL:=ah (show lT (b0:Int)=(4,(b0:Int)%8)by unfold lT;rw[aj (by omega),aj (by omega),aj (by omega),ak (by omega)]);have HD:=ah (fault4 s.size b0 b1 b2 b3 ⟨a0,a1⟩ (.inl hk));have HB:=ah (show b0<256 by omega);clear a0 a1;have hne:((s.size:Int)==0)=false:=by rw[bW];omega
 go_enter Tryz.func107,Tryz.ntmps107;go_wp2_with (go_at_call 159;refine(qI _ (by omega) (by have:=HB.out;omega) _).mono ?_;rintro e w1 ⟨rfl,rfl⟩;rw[HL.out]);go_ret2;exact cO HD.out rfl
theorem acr (s:ByteArray) (hk:4≤s.size) (hz:s.size≤100000) (b0 b1 b2 b3:Nat) (x0:(s[0]'(by omega)).toNat=b0) (x1:(s[1]'(by omega)).toNat=b1) (x2:(s[2]'(by omega)).toNat=b2) (x3:(s[3]'(by omega)).toNat=b3) (h1:b1<256) (h2:b2<256) (h3:b3<256) (a0:240≤b0) (a1:b0<248) (w:World):Calls Tryz.prog 107 #[.string s] w (lU s.size b0 b1 b2 b3 w):=by
 have HL:=ah (show lT (b0:Int)=(4,(b0:Int)%8)by unfold lT;rw[aj (by omega),aj (by omega),aj (by omega),ak (by omega)]);have HF:=ah (fault4 s.size b0 b1 b2 b3 ⟨a0,a1⟩);have HG:=ah (aiW s.size b0 b1 b2 b3 ⟨a0,a1⟩);have HB:=ah (show b0<256 by omega);have HC1:=ah (oJ h1);have HC2:=ah (oJ h2);have HC3:=ah (oJ h3);have hne:((s.size:Int)==0)=false:=by rw[bW];omega
 have hsz:decide ((s.size:Int)<4)=false:=aX (by omega);clear a0 a1;go_enter Tryz.func107,Tryz.ntmps107;go_wp2_with (go_at_call 159;refine(qI _ (by omega) (by have:=HB.out;omega) _).mono ?_;rintro e w1 ⟨rfl,rfl⟩;rw[HL.out]);obtain⟨r0,hr0⟩:∃r0:Int,(b0:Int)%8=r0:=⟨_,rfl⟩
 have q0:0≤r0:=by omega
 have q1:r0<8:=by omega
 rw[hr0];have Vi:=ah hr0;clear hr0;go_loopw [6,5] (fun vi vr wr=>wr=w1∧((vi= .int .i64 1∧vr= .int .i32 r0)∨(vi= .int .i64 2∧vr= .int .i32 (r0*64+(b1:Int)%64)∧b1/64=2)∨(vi= .int .i64 3∧vr= .int .i32 ((r0*64+(b1:Int)%64)*64+(b2:Int)%64)∧b1/64=2∧b2/64=2)∨(vi= .int .i64 4∧vr= .int .i32 (((r0*64+(b1:Int)%64)*64+(b2:Int)%64)*64+(b3:Int)%64)∧b1/64=2∧b2/64=2∧b3/64=2))) (fun vi _ _=>(4-RowKit.intOf vi).toNat);case atStart=>exact⟨rfl, .inl ⟨rfl,rfl⟩⟩
 case round=>
  obtain⟨rfl,⟨rfl,rfl⟩|⟨rfl,rfl,k1⟩|⟨rfl,rfl,k1,k2⟩|⟨rfl,rfl,k1,k2,k3⟩⟩:=hrel
  ·by_cases c1:b1/64=2
   ·have hc:(bits BinOp.and IntKind.u8 (b1:Int) 192 !=128)=false:=by rw[HC1.out];exact aX (fun h=>h c1)
    have C1:=ah c1;clear c1;go_wp2_with fail;go_roundw;case rel=>exact⟨by first|rfl|trivial, .inr (.inl ⟨rfl,rfl,C1.out⟩)⟩
    case measure=>simp[RowKit.intOf]
   ·have hc:(bits BinOp.and IntKind.u8 (b1:Int) 192 !=128)=true:=by rw[HC1.out];exact bB c1
    have C1:=ah c1;clear c1;go_wp2_with fail;go_ret2;exact cO (HF.out (.inr (.inl C1.out))) rfl
  ·have K1:=ah k1;clear k1;by_cases c2:b2/64=2
   ·have hc:(bits BinOp.and IntKind.u8 (b2:Int) 192 !=128)=false:=by rw[HC2.out];exact aX (fun h=>h c2)
    have C2:=ah c2;clear c2;go_wp2_with fail;go_roundw;case rel=>exact⟨by first|rfl|trivial, .inr (.inr (.inl ⟨rfl,rfl,K1.out,C2.out⟩))⟩
    case measure=>simp[RowKit.intOf]
   ·have hc:(bits BinOp.and IntKind.u8 (b2:Int) 192 !=128)=true:=by rw[HC2.out];exact bB c2
    have C2:=ah c2;clear c2;go_wp2_with fail;go_ret2;exact cO (HF.out (.inr (.inr (.inl C2.out)))) rfl
  ·have K1:=ah k1;clear k1;have K2:=ah k2;clear k2;by_cases c3:b3/64=2
   ·have hc:(bits BinOp.and IntKind.u8 (b3:Int) 192 !=128)=false:=by rw[HC3.out];exact aX (fun h=>h c3)
    have C3:=ah c3;clear c3;go_wp2_with fail;go_roundw;case rel=>exact⟨by first|rfl|trivial, .inr (.inr (.inr (⟨rfl,rfl,K1.out,K2.out,C3.out⟩)))⟩
    case measure=>simp[RowKit.intOf]
   ·have hc:(bits BinOp.and IntKind.u8 (b3:Int) 192 !=128)=true:=by rw[HC3.out];exact bB c3
    have C3:=ah c3;clear c3;go_wp2_with fail;go_ret2;exact cO (HF.out (.inr (.inr (.inr (.inl C3.out))))) rfl
  ·have K1:=ah k1;clear k1;have K2:=ah k2;clear k2;have K3:=ah k3;clear k3;obtain⟨rr,hrr⟩:∃rr:Int,(((r0*64+(b1:Int)%64)*64+(b2:Int)%64)*64+(b3:Int)%64)=rr:=⟨_,rfl⟩
   have HRR:=ah hrr;have hfull:rr=((b0%8*262144+b1%64*4096+b2%64*64+b3%64:Nat):Int):=by have:=Vi.out;omega
   have hub:0≤rr∧rr≤2097151:=by omega
   by_cases cw:65536≤rr∧rr≤1114111;·have HW:=ah (show kR rr=4 by unfold kR;rw[ak ((jZ _).2 (by omega)),aj (by omega),aj (by omega),aj (by omega)]);have HD:=ah (HG.out ⟨hk,K1.out,K2.out,K3.out,by omega⟩);have HFU:=ah hfull;clear hrr hfull cw hub;go_wp2_with (go_at_call 160;refine(iP _ _).mono ?_;rintro e w2 ⟨rfl,rfl⟩;rw[HRR.out,HW.out]);go_ret2;exact cO HD.out (by rw[←HFU.out,←HRR.out];rfl)
   ·have hwne:kR rr≠4:=acp rr hub.1 hub.2 cw;have HD:=ah (HF.out (.inr (.inr (.inr (.inr (by omega))))));obtain⟨ww,Za⟩:∃ww,kR rr=ww:=⟨_,rfl⟩
    rw[Za]at hwne;have HW:=ah Za;have hb:(((ww:Nat):Int) !=4)=true:=by simp;omega
    clear hrr hfull cw hub Za;go_wp2_with (go_at_call 160;refine(iP _ _).mono ?_;rintro e w2 ⟨rfl,rfl⟩;rw[HRR.out,HW.out]);go_ret2;exact cO HD.out rfl
theorem QJ (l:List UInt8) (h0:l≠[]) (hz:l.length≤100000) (w:World):Calls Tryz.prog 107 #[.string ⟨l.toArray⟩] w fun e w'=>e= .returned (.tuple #[.int .i32 (dec l).1, .int .i64 (dec l).2])∧w'=w:=by
 obtain⟨s,hs⟩:∃s:ByteArray,(⟨l.toArray⟩:ByteArray)=s:=⟨_,rfl⟩
 have hss:s.size=l.length:=size_mk l s hs;have hl:=xg.2 h0;have key:Calls Tryz.prog 107 #[.string s] w (lU s.size (bt l 0) (bt l 1) (bt l 2) (bt l 3) w):=by
  have b0:=rR l 0;have g:∀i (h:i<s.size),(s[i]'h).toNat=bt l i:=byte_at s l hs;have hs0:0<s.size:=by omega
  by_cases c1:bt l 0<128;·exact ach s hs0 _ _ _ _ (g 0 _) c1 w
  ·by_cases c2:bt l 0<192
   ·exact SX s hs0 _ _ _ _ (g 0 _) (by omega) w
   ·by_cases c3:bt l 0<224
    ·by_cases k:s.size<2
     ·exact Y9 s hs0 k _ _ _ _ (g 0 _) (by omega) c3 w
     ·exact acj s (by omega) (by omega) _ _ _ _ (g 0 _) (g 1 _) (rR l 1) (by omega) c3 w
    ·by_cases c4:bt l 0<240
     ·by_cases k:s.size<3
      ·exact Zb s hs0 k _ _ _ _ (g 0 _) (by omega) c4 w
      ·exact aco s (by omega) (by omega) _ _ _ _ (g 0 _) (g 1 _) (g 2 _) (rR l 1) (rR l 2) (by omega) c4 w
     ·by_cases c5:bt l 0<248
      ·by_cases k:s.size<4
       ·exact Zc s hs0 k _ _ _ _ (g 0 _) (by omega) c5 w
       ·exact acr s (by omega) (by omega) _ _ _ _ (g 0 _) (g 1 _) (g 2 _) (g 3 _) (rR l 1) (rR l 2) (rR l 3) (by omega) c5 w
      ·exact SX s hs0 _ _ _ _ (g 0 _) (by omega) w
 rw[hs];rw[hss]at key;exact key
end
section
open Folds (dec aZ bV)
abbrev Mk:=Nat×Nat×Nat×Bool
def jH (m:Mk):List Value:=[.int .i64 m.1, .int .i64 m.2.1, .int .i32 m.2.2.1, .bool m.2.2.2]
def iY (l:List Mk):List Value:=l.flatMap jH
theorem QK (l x:List Mk):iY (l++x)=iY l++iY x:=by simp[iY]
theorem QL (l:List Mk):(iY l).length=l.length*4:=by
 induction l with
 |nil=>rfl
 |cons a l ih=>show(jH a++iY l).length=_;rw[bf,ih];simp only[jH,bJ,iw];omega
def mk4 (t:List UInt8):Nat→Nat→List Mk
 |0,_=>[]
 |n+1,e=>if e<t.length then(e,(dec (t.drop e)).2,(dec (t.drop e)).1,((dec (t.drop e)).2:Int)==1&&((dec (t.drop e)).1:Int)==65533)::mk4 t n (e+(dec (t.drop e)).2)else[]
def Bb (t:List UInt8):List Mk:=mk4 t t.length 0
theorem SY (t:List UInt8):∀n e,(mk4 t n e).length≤n
 |0,_=>ay _
 |n+1,e=>by
  unfold mk4;split;·simp only[bJ];have:=SY t n (e+(dec (t.drop e)).2);omega
  ·exact aH _
theorem Vj:(Tryz.prog.info? 108).map (fun i=>(i.zero,i.size,i.bytes))=some (some (.agg #[.int .i64 0, .int .i64 0, .int .i32 0, .bool false]),4,24):=by kernel_rfl
theorem NT (w:World) (m:Mk) (ty:TypeId):∀j u,(jH m)[j]? =some u→(w.alloc (.cells (jH m).toArray ty)).cell? ((⟨w.heap.size,0,none⟩:Addr).add j)=some u:=by intro j u hu;rw[gX,bK,bC _ _ _ _ _ _ (dh w _),←hu];simp
theorem NU (m:Mk):∀u∈jH m,u.oneCell'=true:=by intro u hu;simp[jH]at hu;rcases hu with rfl|rfl|rfl|rfl<;>rfl
structure ML (W:World) (v:Value) (acc:List Mk) (w:World):Prop where
 aB:Below W.heap.size W w
 own:w.ownsRow W.heap.size 108 4 v acc.length (iY acc)
theorem ML.grown {W:World} {v v':Value} {m:Nat} {acc:List Mk} {x:Mk} {w w':World} {o:Obj} (h:ML W v acc w)
 (ho:w'.ownsRow W.heap.size 108 4 v' m (iY acc++jH x)) (hg:(w.alloc o).grownBy w' v.ownBlock):ML W v' (acc++[x]) w':=by
 have hown:(w.alloc o).ownsRow W.heap.size 108 4 v acc.length (iY acc):=dN h.own;have hb:Below W.heap.size W (w.alloc o):=h.aB.alloc h.aB.size o;have hm:m=acc.length+1:=by have h1:=ho.1;rw[bf,QL]at h1;simp only[jH,bJ,iw]at h1;omega
 refine⟨hb.grown hg hb.size (fun k hk=>(bD hown hk).1),?_⟩;rw[QK,bf,←show m=acc.length+[x].length from hm];have:iY [x]=jH x:=by simp[iY]
 rw[this];exact ho
def Vk (t:List UInt8) (W:World) (e:Ending) (w':World):Prop:=∃v,e= .returned v∧w'.ownsRow W.heap.size 108 4 v (Bb t).length (iY (Bb t))∧Below W.heap.size W w'
theorem ang {m e n:Nat} (h1:m≤e) (h2:e≤n) (h3:n≤100000):m+1≤maxLen∧(m+1)*24≤140737488355328:=⟨by simp only[maxLen];omega,by omega⟩
theorem NV (t:List UInt8) (W:World) (hn:t.length≤100000):Calls Tryz.prog 63 #[.string ⟨t.toArray⟩] W (Vk t W):=by
 obtain⟨s,hs⟩:∃s:ByteArray,(⟨t.toArray⟩:ByteArray)=s:=⟨_,rfl⟩
 have hss:s.size=t.length:=size_mk t s hs;rw[hs];have HS:=ah hs;have kS:=ah hss;clear hs hss;obtain⟨i0,hI0,hz0,hz1,hz2⟩:=dY Vj;go_enter Tryz.func63,Tryz.ntmps63;go_wp2;go_loopw [3,4] (fun vl vi wr=>∃(e n m c:Nat) (A:Option Addr) (acc:List Mk),vi= .int .i64 e∧vl= .slice A m c∧acc.length=m∧ML W (.slice A m c) acc wr∧e≤t.length∧t.length<n+e+1∧m≤e∧acc++mk4 t n e=Bb t) (fun _ vi _=>t.length-(RowKit.intOf vi).toNat);case atStart=>exact⟨0,t.length,0,0,none,[],rfl,rfl,rfl,⟨aF _ _,⟨rfl, .inl ⟨rfl,rfl⟩⟩⟩,aH _,by omega,ay _,rfl⟩
 case round=>
  obtain⟨e,n,m,c,A,acc,rfl,rfl,hm,hML,he,hne,hme,hl⟩:=hrel;have HM:=ah hML;clear hML;have hss:=kS.out;by_cases hlt:e<s.size
  ·have hlt2:e<t.length:=by omega
   obtain⟨n',rfl⟩:∃n',n=n'+1:=⟨n-1,by omega⟩
   have hne2:t.drop e≠[]:=by intro c;rw[je]at c;omega
   have hd1:=aZ (t.drop e);have hd2:=bV (t.drop e) hne2;rw[dQ]at hd2;unfold mk4 at hl;rw[ak hlt2]at hl;have HDE:=ah (fun w=>QJ (t.drop e) hne2 (by rw[dQ];omega) w);obtain⟨r,hr⟩:∃r,(dec (t.drop e)).1=r:=⟨_,rfl⟩
   obtain⟨wd,hwd⟩:∃wd,(dec (t.drop e)).2=wd:=⟨_,rfl⟩
   rw[hr,hwd]at HDE hl;rw[hwd]at hd1 hd2;obtain⟨ew,Cv⟩:∃ew,e+wd=ew:=⟨_,rfl⟩
   rw[Cv]at hl;have hx1:=KP t e s HS.out;have hi0:(0:Int)≤e:=xu e;have hi1:(e:Int)≤s.size:=Int.ofNat_le.2 (dJ hlt);have hsa:∀W,(Instr.slice 9 (.string s) (some (.int .i64 (e:Int))) none none).run Tryz.prog W= .ok (.string ⟨(t.drop e).toArray⟩) W:=fun W=>by rw[run_slice_string_from_if _ _ _ _ _ Tryz.underlying9,ak ⟨hi0,hi1⟩,jM,hx1]
   have HLEN:=ah (ang hme he hn);obtain⟨bd,hbd⟩:∃bd,(((wd:Nat):Int)==1&&((r:Nat):Int)==65533)=bd:=⟨_,rfl⟩
   rw[hbd]at hl;obtain⟨m1,hm1⟩:∃m1,m+1=m1:=⟨_,rfl⟩
   have KEY:=ah (fun(A':Option Addr) (c':Nat) (w':World) (h:ML W (.slice A' m1 c') (acc++[(e,wd,r,bd)]) w')=>
    show(∃(e n m c:Nat) (A:Option Addr) (acc:List Mk),Value.int .i64 (ew:Int)= .int .i64 e∧Value.slice A' m1 c'= .slice A m c∧acc.length=m∧ML W (.slice A m c) acc w'∧e≤t.length∧t.length<n+e+1∧m≤e∧acc++mk4 t n e=Bb t)∧t.length-(RowKit.intOf (.int .i64 (ew:Int))).toNat<t.length-(RowKit.intOf (.int .i64 (e:Int))).toNat from by refine⟨⟨ew,n',m1,c',A',acc++[(e,wd,r,bd)],rfl,rfl,by rw[List.length_append,hm,←hm1];rfl,h,by omega,by omega,by omega,?_⟩,by simp[RowKit.intOf];omega⟩;rw[←hl,dI];rfl)
   have HEW:=ah (show(e:Int)+(wd:Int)=(ew:Int)by omega);have HBD:=ah hbd;have HMA:=ah hm;have HOWN:=ah (show wr.ownsRow W.heap.size 108 4 (.slice A m c) m (iY acc)by have:=HM.out.own;rwa [hm]at this);have hwz:wd≤4:=by rw[←hwd];exact Folds.KN _
   have HWZ:=ah (And.intro hwz hd1);clear hr hwd hbd hl hm hne hme hd1 hd2 hx1 hi0 hi1 hne2 Cv hwz;by_cases c1:wd=1
   ·subst c1;go_wp2_with (first
     |(go_at_call 107;refine(HDE.out _).mono ?_;rintro x wz ⟨rfl,rfl⟩)
     |(at_builtin;(refine qC _ rfl (.tmp 18) (.tmp 29) 105 rfl W.heap.size 108 i0 _ 4 24 Tryz.underlying105 hI0 hz0 hz1 hz2 rfl (by decide) (.slice A m c) m (iY acc) rfl (dN HOWN.out) ⟨_,0,none⟩ 1 1 (jH (e,1,r,((r:Nat):Int)==65533)) rfl rfl (NT _ _ _) (NU _) (by decide) HLEN.out.1 HLEN.out.2 (jm HM.out.aB.size) _ rfl ?_);intro g cap wq ho hg hl hs))
    rw[show(e:Int)+1=(ew:Int)from HEW.out];have hb:(((r:Nat):Int)==65533)=bd:=HBD.out;rw[hb]at ho;exact KEY.out _ _ _ (by rw[←hm1];exact ML.grown HM.out ho hg)
   ·have c2:(((wd:Nat):Int)==1)=false:=by rw[bW];omega
    have hb:bd=false:=by rw[←HBD.out,c2];rfl
    go_wp2_with (first
     |(go_at_call 107;refine(HDE.out _).mono ?_;rintro x wz ⟨rfl,rfl⟩)
     |(at_builtin;(refine qC _ rfl (.tmp 18) (.tmp 29) 105 rfl W.heap.size 108 i0 _ 4 24 Tryz.underlying105 hI0 hz0 hz1 hz2 rfl (by decide) (.slice A m c) m (iY acc) rfl (dN HOWN.out) ⟨_,0,none⟩ 1 1 (jH (e,wd,r,false)) rfl rfl (NT _ _ _) (NU _) (by decide) HLEN.out.1 HLEN.out.2 (jm HM.out.aB.size) _ rfl ?_);intro g cap wq ho hg hl hs))
    rw[HEW.out,show wrap64 (ew:Int)=(ew:Int)by have:=HEW.out;have:=HWZ.out;have:=kS.out;unfold wrap64;omega];rw[hb]at KEY;exact KEY.out _ _ _ (by rw[←hm1];exact ML.grown HM.out ho hg)
  ·have hee:e=t.length:=by omega
   have hz:mk4 t n e=[]:=by
    subst hee;cases n with
    |zero=>rfl
    |succ n'=>show(if t.length<t.length then _ else _)=_;rw[aj (dA _)]
   rw[hz,eD]at hl;have HL:=ah hl;have HMA:=ah hm;clear hl hz hm hme hne he hee;go_wp2;go_ret;refine⟨_,rfl,?_,HM.out.aB⟩;rw[←HL.out];exact HM.out.own
end
section
open Folds (dec aZ bV)
def zh (k:Nat) (t:List UInt8) (m:Mk):List UInt8:=if m.2.2.2=true then(t.drop m.1).take m.2.1 else pG (formV m.2.2.1 k)
theorem flat_mk4 (k:Nat) (t:List UInt8):∀n e,(mk4 t n e).flatMap (zh k t)=Folds.out (fun r=>pG (formV r k)) n (t.drop e)
 |0,_=>rfl
 |n+1,e=>by
  show(if e<t.length then _ else _:List Mk).flatMap _=(if t.drop e=[]then _ else _)
  by_cases c:e<t.length
  ·have hne:t.drop e≠[]:=by intro d;rw[je]at d;omega
   rw[ak c,aj hne,List.drop_drop,List.flatMap_cons,flat_mk4 k t n];congr 1;unfold zh Folds.one;dsimp only;by_cases h:(dec (t.drop e)).1=65533∧(dec (t.drop e)).2=1;·rw[ak h,ak (by rw[h.1,h.2];rfl),h.2]
   ·rw[aj h,aj (by
     intro hb;rw[aP,bL,bL]at hb;exact h ⟨by omega,by omega⟩)]
  ·rw[aj c,ak (by rw[je];omega)];rfl
theorem afM (k:Nat) (t:List UInt8):(Bb t).flatMap (zh k t)=wr k t:=by unfold Bb wr Folds.wrt;rw[flat_mk4,tJ]
theorem S9 (t:List UInt8):∀n e,∀m∈mk4 t n e,m.1+m.2.1≤t.length∧1≤m.2.1∧uO (m.2.2.1:Int)=true
 |0,_,m,h=>by cases h
 |n+1,e,m,h=>by
  unfold mk4 at h;by_cases c:e<t.length
  ·rw[ak c]at h;rcases aU.1 h with rfl|h
   ·have hne:t.drop e≠[]:=by intro d;rw[je]at d;omega
    have:=bV (t.drop e) hne;rw[dQ]at this;exact⟨by dsimp only;omega,aZ _,Sr _⟩
   ·exact S9 t n _ m h
  ·rw[aj c]at h;cases h
theorem NW (k:Nat) (t:List UInt8) (m:Mk) (h:m.2.1≤4):(zh k t m).length≤12:=by
 unfold zh;split;·rw[gH];omega
 ·exact aQ (vH _) (by have:=formV_len m.2.2.1 k;omega)
theorem Ta (t:List UInt8):∀n e,∀m∈mk4 t n e,m.2.1≤4
 |0,_,m,h=>by cases h
 |n+1,e,m,h=>by
  unfold mk4 at h;by_cases c:e<t.length
  ·rw[ak c]at h;rcases aU.1 h with rfl|h
   ·exact Folds.KN _
   ·exact Ta t n _ m h
  ·rw[aj c]at h;cases h
def Vl (k:Nat) (t:List UInt8) (m:Mk):List Int:=List.replicate (zh k t m).length (m.1:Int)
def mk0:Mk:=(0,0,0,false)
theorem take_mk (l:List Mk) {i:Nat} (h:i<l.length):l.take (i+1)=l.take i++[l.getD i mk0]:=by rw[xw,aM,aY h];rfl
theorem GN:∀(l:List Mk) (k:Nat),k<l.length→(iY l)[k*4]? =some (.int .i64 (l.getD k mk0).1)∧(iY l)[k*4+1]? =some (.int .i64 (l.getD k mk0).2.1)∧(iY l)[k*4+2]? =some (.int .i32 (l.getD k mk0).2.2.1)∧(iY l)[k*4+3]? =some (.bool (l.getD k mk0).2.2.2)
 |[],k,h=>absurd h (iN _)
 |a::l,0,_=>⟨rfl,rfl,rfl,rfl⟩
 |a::l,k+1,h=>by have:=GN l k (Nat.lt_of_succ_lt_succ h);rw[show(k+1)*4=k*4+1+1+1+1 by omega];exact this
structure Zd (W w1:World) (v:Value) (ats:List Int) (w:World):Prop where
 aB:Below w1.heap.size w1 w
 own:w.ownsRow w1.heap.size 3 1 v ats.length (bA ats)
theorem Zd.below {W w1 w w':World} {v:Value} {ats:List Int} (h:Zd W w1 v ats w) (hb:Below w.heap.size w w'):Zd W w1 v ats w':=⟨h.aB.trans (hb.mono h.aB.size),own_below hb h.own⟩
theorem Zd.grown {W w1 w w':World} {v v':Value} {ats:List Int} {x:Int} {m:Nat} {o:Obj} (h:Zd W w1 v ats w) (hm:ats.length=m) (ho:w'.ownsRow w1.heap.size 3 1 v' (m+1) (bA ats++[.int .i64 x])) (hg:(w.alloc o).grownBy w' v.ownBlock):Zd W w1 v' (ats++[x]) w':=by have hb:Below w1.heap.size w1 (w.alloc o):=h.aB.alloc h.aB.size o;refine⟨hb.grown hg hb.size (fun k hk=>(bD (dN (o:=o) h.own) hk).1),?_⟩;rw[kJ,bf,hm];exact ho
def QM (k:Nat) (t:List UInt8) (W:World) (e:Ending) (w':World):Prop:=∃v,e= .returned (.tuple #[.string ⟨(wr k t).toArray⟩,v])∧w'.ownsRow W.heap.size 3 1 v ((Bb t).flatMap (Vl k t)).length (bA ((Bb t).flatMap (Vl k t)))∧Below W.heap.size W w'
theorem afO (a b:List UInt8):(⟨a.toArray⟩:ByteArray)++⟨b.toArray⟩=⟨(a++b).toArray⟩:=by apply ByteArray.ext;simp
theorem at_len (k:Nat) (t:List UInt8) (M:List Mk) (h:∀m∈M,m.2.1≤4):∀i,((M.take i).flatMap (Vl k t)).length≤12*i
 |0=>by simp
 |i+1=>by
  rcases aK i M.length with c|c
  ·rw[take_mk M c,xk,bf,qy];have h1:=at_len k t M h i;have h2:(Vl k t (M.getD i mk0)).length≤12:=by unfold Vl;rw[Ar];refine NW k t _ (h _ ?_);rw[aM,aY c];exact mG _
   omega
  ·rw[mH (by omega)];have h1:=at_len k t M h i;rw[mH c]at h1;omega
theorem afP (k:Nat) (t:List UInt8) (M:List Mk):(M.flatMap (zh k t)).length=(M.flatMap (Vl k t)).length:=by simp[List.length_flatMap,Vl]
theorem Vm (t:List UInt8) (k:Nat) (hk:k<4) (hk0:k≠0) (v:Value) (W:World) (h:Dm W v) (hn:t.length≤10000):Calls Tryz.prog 121 #[v, .string ⟨t.toArray⟩, .int .i64 k] W (QM k t W):=by
 obtain⟨B,o,rfl⟩:∃B o,v= .pointer (some ⟨B,o,none⟩):=by obtain⟨_,B,o,_,_,_,rfl,_⟩:=h;exact⟨B,o,rfl⟩
 have HMK:=ah (NV t W (by omega));obtain⟨s,hs⟩:∃s:ByteArray,(⟨t.toArray⟩:ByteArray)=s:=⟨_,rfl⟩
 have hss:s.size=t.length:=size_mk t s hs;rw[hs]at HMK⊢;have HS:=ah hs;have kS:=ah hss;have HB:=ah h;have HK:=ah hk;have HN:=ah hn;have hkz:((k:Int)==0)=false:=by rw[bW];omega
 obtain⟨M,hM⟩:∃M,Bb t=M:=⟨_,rfl⟩
 have VZ:=ah (show M.length≤10000 by rw[←hM];exact aQ (SY t t.length 0) hn);have HMM:=ah (show ∀m∈M,m.1+m.2.1≤t.length∧1≤m.2.1∧uO (m.2.2.1:Int)=true by rw[←hM];exact S9 t t.length 0);have HMW:=ah (show ∀m∈M,m.2.1≤4 by rw[←hM];exact Ta t t.length 0);have HWR:=ah (show M.flatMap (zh k t)=wr k t by rw[←hM];exact afM k t);have HMQ:=ah hM;clear hs hss h hk hn hM hk0;obtain⟨i0,hI0,hz0,hz1,hz2⟩:=dY gB;go_enter Tryz.func121,Tryz.ntmps121;go_wp2_with (go_at_call 63;refine HMK.out.mono ?_;rintro e w1 ⟨vm,rfl,hown,hb⟩;rw[HMQ.out]at hown;obtain⟨Am,cm,rfl,_⟩:=aL hown;have HOM:=ah hown;have HB1:=ah hb;clear hown hb);obtain⟨N,hN⟩:∃N,M.length=N:=⟨_,rfl⟩
 rw[hN]at HOM VZ⊢;have HNN:=ah hN;clear hN;go_loopw [9,10,11] (fun vo va vi wr=>∃(i m c:Nat) (A:Option Addr),i≤N∧vi= .int .i64 i∧vo= .string ⟨((M.take i).flatMap (zh k t)).toArray⟩∧va= .slice A m c∧m=((M.take i).flatMap (Vl k t)).length∧Zd W w1 (.slice A m c) ((M.take i).flatMap (Vl k t)) wr) (fun _ _ vi _=>N-(RowKit.intOf vi).toNat);case atStart=>exact⟨0,0,0,none,aH _,rfl,rfl,rfl,rfl,aF _ _,⟨rfl, .inl ⟨rfl,rfl⟩⟩⟩
 case round=>
  obtain⟨i,m,c,A,hi,rfl,rfl,rfl,hm,hbw⟩:=hrel;have HW:=ah hbw;have HM:=ah hm;clear hbw hm;by_cases hlt:i<N
  ·obtain⟨g,rfl⟩:=rQ HOM.out (by omega);have hg1:=(bD HOM.out (g:=g) rfl).2.1;have hc:=qD (g:=g) HOM.out rfl;have hget:=GN M i (by rw[HNN.out];exact hlt);obtain⟨x,hx⟩:∃x,M.getD i mk0=x:=⟨_,rfl⟩
   rw[hx]at hget;have hxm:x∈M:=by rw[←hx,aM,aY (by rw[HNN.out];exact hlt)];exact mG _
   have HX1:=HMM.out x hxm;have HX2:=HMW.out x hxm;have BG:=ah (take_mk M (i:=i) (by rw[HNN.out];exact hlt));rw[hx]at BG;obtain⟨g0,g1,g2,g3⟩:=hget;have c0:=hc _ _ g0;have c1:=hc _ _ g1;have c2:=hc _ _ g2;have c3:=hc _ _ g3;rw[gX,bK]at c0 c1 c2 c3;clear hc g0 g1 g2 g3 hx hxm;have key:∀w,Below w1.heap.size w1 w→w.cell? ⟨g,i*4,none⟩=some (.int .i64 x.1)∧w.cell? ⟨g,i*4+1,none⟩=some (.int .i64 x.2.1)∧w.cell? ⟨g,i*4+2,none⟩=some (.int .i32 x.2.2.1)∧w.cell? ⟨g,i*4+3,none⟩=some (.bool x.2.2.2):=fun w hb=>⟨by rw[hb.cell (p:=⟨g,i*4,none⟩) hg1];exact c0,by rw[hb.cell (p:=⟨g,i*4+1,none⟩) hg1];exact c1,by rw[hb.cell (p:=⟨g,i*4+2,none⟩) hg1];exact c2,by rw[hb.cell (p:=⟨g,i*4+3,none⟩) hg1];exact c3⟩
   have KC:=ah key;clear key c0 c1 c2 c3 hg1;obtain⟨a,wd,r,bd⟩:=x;dsimp only at HX1 HX2 KC;obtain⟨hx1,hx2,hx3⟩:=HX1;obtain⟨d0,d1,d2,d3⟩:=KC.out wr HW.out.aB;have ha0:(0:Int)≤a:=xu a;have ha1:(a:Int)≤(a:Int)+wd:=by omega
   have ha2:(a:Int)+wd≤s.size:=by have:=kS.out;omega
   have hsl:∀W,(Instr.slice 9 (.string s) (some (.int .i64 (a:Int))) (some (.int .i64 (wrap64 ((a:Int)+(wd:Int))))) none).run Tryz.prog W= .ok (.string ⟨((t.drop a).take wd).toArray⟩) W:=fun W=>by rw[show wrap64 ((a:Int)+(wd:Int))=(a:Int)+wd by have:=HN.out;unfold wrap64;omega,run_slice_string _ _ _ _ _ _ _ Tryz.underlying9 ha0 ha1 ha2,jM,show((a:Int)+(wd:Int)).toNat=a+wd by omega,←HS.out,tQ,oN]
   have HX3:=ah hx3;clear hx3;obtain⟨X,hX⟩:∃X,zh k t (a,wd,r,bd)=X:=⟨_,rfl⟩
   have hxl:X.length≤12:=by rw[←hX];exact NW k t _ HX2
   have HAX:=ah (show Vl k t (a,wd,r,bd)=List.replicate X.length (a:Int)by unfold Vl;rw[hX]);obtain⟨ol,hol⟩:∃ol,(M.take i).flatMap (zh k t)=ol:=⟨_,rfl⟩
   obtain⟨al,hal⟩:∃al,(M.take i).flatMap (Vl k t)=al:=⟨_,rfl⟩
   have HOL:=ah (show(M.take (i+1)).flatMap (zh k t)=ol++X by rw[BG.out,xk,hol,qy,hX]);have zi:=ah (show(M.take (i+1)).flatMap (Vl k t)=al++List.replicate X.length (a:Int)by rw[BG.out,xk,hal,qy,HAX.out]);have anj:ol.length=al.length:=by rw[←hol,←hal];exact afP k t _
   have ai0:al.length≤12*i:=by rw[←hal];exact at_len k t M HMW.out i
   rw[hol];rw[hal]at HM HW;clear hol hal;obtain⟨XB,hXB⟩:∃XB:ByteArray,(⟨X.toArray⟩:ByteArray)=XB:=⟨_,rfl⟩
   have hxs:XB.size=X.length:=size_mk X XB hXB;obtain⟨XN,hXN⟩:∃XN,X.length=XN:=⟨_,rfl⟩
   rw[hXN]at hxs hxl zi;have happ:(⟨ol.toArray⟩:ByteArray)++XB=⟨((M.take (i+1)).flatMap (zh k t)).toArray⟩:=by rw[HOL.out,←hXB,afO]
   have HXS:=ah hxs;have afQ:=ah happ;have HIN:=ah (show al.length+XN≤1000000 by have:=VZ.out;omega);obtain⟨i1,hi1⟩:∃i1,i+1=i1:=⟨_,rfl⟩
   have HI1:=ah hi1;rw[hi1]at zi afQ;have hov:¬9223372036854775807<ol.length+XB.size:=by have:=HIN.out;omega
   clear hxs happ hi1 ai0 hxl hXN anj;cases bd;case true=>
    have PW:(⟨((t.drop a).take wd).toArray⟩:ByteArray)=XB:=by rw[←hXB,←hX];unfold zh;rw[ak rfl]
    have HXX:=ah PW;rw[PW]at hsl;clear PW hX hXB;go_wp2_with fail;go_quiet (fail);go_wp2_with fail;rw[afQ.out];have HWQ:=ah (show Zd W w1 (.slice A m c) al (wr.drewN nq)from⟨⟨HW.out.aB.os,HW.out.aB.tape,HW.out.aB.output,HW.out.aB.size,HW.out.aB.block⟩,HW.out.own⟩);clear d0 d1 d2 d3 hsl;go_loopw [14,10] (fun vn va wq=>∃(j m' c':Nat) (A':Option Addr),j≤XN∧vn= .int .i64 j∧va= .slice A' m' c'∧(al++List.replicate j (a:Int)).length=m'∧Zd W w1 (.slice A' m' c') (al++List.replicate j (a:Int)) wq) (fun vn _ _=>XN-(RowKit.intOf vn).toNat);case atStart=>exact⟨0,m,c,A,aH _,rfl,rfl,by rw[List.replicate_zero,eD];exact HM.out.symm,by rw[List.replicate_zero,eD];exact HWQ.out⟩
    case round=>
     obtain⟨j,m',c',A',hj,rfl,rfl,hjm,hjw⟩:=hrel;have HJ:=ah hjw;have HJM:=ah hjm;have HOJ:=ah (show wr.ownsRow w1.heap.size 3 1 (.slice A' m' c') m' (bA (al++List.replicate j (a:Int)))by have:=hjw.own;rwa [hjm]at this);have HLJ:=ah (show m'+1≤maxLen∧(m'+1)*8≤140737488355328 by rw[bf,Ar]at hjm;have:=HIN.out;exact⟨by simp only[maxLen];omega,by omega⟩);obtain⟨d0,d1,d2,d3⟩:=KC.out wr hjw.aB;clear hjw hjm;have hxs:=HXS.out;by_cases hlt2:j<XN
     ·go_wp2_with (at_builtin;refine aT _ rfl (.tmp 72) (.tmp 78) 41 rfl w1.heap.size 3 i0 _ 8 Tryz.underlying41 hI0 hz0 hz1 hz2 rfl (.slice A' m' c') m' (bA (al++List.replicate j (a:Int))) rfl (dN HOJ.out) _ 1 1 [.int .i64 (a:Int)] rfl (bX _ _ _) (by simp[Value.oneCell']) HLJ.out.1 HLJ.out.2 (by rw[World.size_alloc];have:=HJ.out.aB.size;omega) ?_;intro v' wp ho hg hn;obtain⟨A2,d2,rfl,_⟩:=aL ho;have HJG:=Lib.hid (HJ.out.grown HJM.out ho hg);clear ho hg hn);go_roundw;case rel=>exact⟨j+1,m'+1,d2,A2,hlt2,by go_num,rfl,by rw[List.replicate_succ',←dI,bf,HJM.out];rfl,by rw[List.replicate_succ',←dI];exact HJG.out⟩
      case measure=>simp[RowKit.intOf];omega
     ·obtain rfl:j=XN:=by omega
      go_wp2_with fail;rw[show wrap64 ((i:Int)+1)=(i1:Int)by have:=HI1.out;have:=VZ.out;unfold wrap64;omega];have hi1:=HI1.out;exact⟨⟨i1,m',c',A',by omega,rfl,rfl,rfl,by rw[zi.out];exact HJM.out.symm,by rw[zi.out];exact HJ.out⟩,by simp[RowKit.intOf];omega⟩
   case false=>
    have PW:(⟨(pG (formV r k)).toArray⟩:ByteArray)=XB:=by rw[←hXB,←hX];unfold zh;rw[aj yT]
    have HXX:=ah PW;clear PW hX hXB;go_wp2_with fail;go_quiet (fail);have HWQ:=ah (show Zd W w1 (.slice A m c) al (wr.drewN nq)from⟨⟨HW.out.aB.os,HW.out.aB.tape,HW.out.aB.output,HW.out.aB.size,HW.out.aB.block⟩,HW.out.own⟩);have hri:=(jZ _).1 HX3.out;have HRI:=ah (show-2147483648≤(r:Int)∧(r:Int)≤2147483647 by omega);clear hri;go_wp2_with (first
     |(go_at_call 67;refine(form2_ok r HRI.out k HK.out _ _ (Dw HB.out (HB1.out.trans (HWQ.out.aB.mono HB1.out.size)))).mono ?_;rintro e w5 ⟨sf,rfl,hsf,hb⟩;have HSF:=ah hsf;have HW5:=ah (HWQ.out.below hb);clear hb hsf)
     |(go_at_call 66;refine(Y7 (formV r k) _ _ HSF.out (aQ (formV_len r k) (by decide)) (form_facts r HX3.out k HK.out).2.1).mono ?_;rintro e w6 ⟨rfl,hb⟩;rw[HXX.out];have HW6:=ah (HW5.out.below hb);clear hb))
    rw[afQ.out];clear d0 d1 d2 d3 hsl;go_loopw [14,10] (fun vn va wq=>∃(j m' c':Nat) (A':Option Addr),j≤XN∧vn= .int .i64 j∧va= .slice A' m' c'∧(al++List.replicate j (a:Int)).length=m'∧Zd W w1 (.slice A' m' c') (al++List.replicate j (a:Int)) wq) (fun vn _ _=>XN-(RowKit.intOf vn).toNat);case atStart=>exact⟨0,m,c,A,aH _,rfl,rfl,by rw[List.replicate_zero,eD];exact HM.out.symm,by rw[List.replicate_zero,eD];exact HW6.out⟩
    case round=>
     obtain⟨j,m',c',A',hj,rfl,rfl,hjm,hjw⟩:=hrel;have HJ:=ah hjw;have HJM:=ah hjm;have HOJ:=ah (show wr.ownsRow w1.heap.size 3 1 (.slice A' m' c') m' (bA (al++List.replicate j (a:Int)))by have:=hjw.own;rwa [hjm]at this);have HLJ:=ah (show m'+1≤maxLen∧(m'+1)*8≤140737488355328 by rw[bf,Ar]at hjm;have:=HIN.out;exact⟨by simp only[maxLen];omega,by omega⟩);obtain⟨d0,d1,d2,d3⟩:=KC.out wr hjw.aB;clear hjw hjm;have hxs:=HXS.out;by_cases hlt2:j<XN
     ·go_wp2_with (at_builtin;refine aT _ rfl (.tmp 72) (.tmp 78) 41 rfl w1.heap.size 3 i0 _ 8 Tryz.underlying41 hI0 hz0 hz1 hz2 rfl (.slice A' m' c') m' (bA (al++List.replicate j (a:Int))) rfl (dN HOJ.out) _ 1 1 [.int .i64 (a:Int)] rfl (bX _ _ _) (by simp[Value.oneCell']) HLJ.out.1 HLJ.out.2 (by rw[World.size_alloc];have:=HJ.out.aB.size;omega) ?_;intro v' wp ho hg hn;obtain⟨A2,d2,rfl,_⟩:=aL ho;have HJG:=Lib.hid (HJ.out.grown HJM.out ho hg);clear ho hg hn);go_roundw;case rel=>exact⟨j+1,m'+1,d2,A2,hlt2,by go_num,rfl,by rw[List.replicate_succ',←dI,bf,HJM.out];rfl,by rw[List.replicate_succ',←dI];exact HJG.out⟩
      case measure=>simp[RowKit.intOf];omega
     ·obtain rfl:j=XN:=by omega
      go_wp2_with fail;rw[show wrap64 ((i:Int)+1)=(i1:Int)by have:=HI1.out;have:=VZ.out;unfold wrap64;omega];have hi1:=HI1.out;exact⟨⟨i1,m',c',A',by omega,rfl,rfl,rfl,by rw[zi.out];exact HJM.out.symm,by rw[zi.out];exact HJ.out⟩,by simp[RowKit.intOf];omega⟩
  ·obtain rfl:i=N:=by omega
   have htk:M.take i=M:=mH (by rw[HNN.out];exact ay _);rw[htk]at HM HW;rw[htk,HWR.out];clear htk;go_wp2_with fail;go_ret2;refine⟨_,rfl,?_,HB1.out.trans (HW.out.aB.mono HB1.out.size)⟩;rw[HMQ.out];have:=HW.out.own;exact rO this (fun g hg=>aQ HB1.out.size (bD this hg).1)
end
theorem Ze (t:List UInt8) (v:Value) (W:World) (h:Dm W v) (hn:t.length≤10000):Calls Tryz.prog 73 #[v, .string ⟨t.toArray⟩] W (YE 3 t W):=by have HW:=ah (Vm t 3 (by decide) (by decide) v W h hn);go_enter Tryz.func73,Tryz.ntmps73;go_wp2_with (go_at_call 121;refine HW.out.mono ?_;rintro e w1 ⟨va,rfl,hown,hb⟩;have HB:=ah hb;clear hb hown);go_ret;exact⟨rfl,HB.out⟩
end Go.Proofs.YtocaiijbhepnnaaGreatDoor.searchEach
